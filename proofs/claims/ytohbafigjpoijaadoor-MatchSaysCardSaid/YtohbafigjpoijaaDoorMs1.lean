/- A part of the proof: St1, St2, St3. -/
import Derived.Test.YtohbafigjpoijaaDoorMs0
import Derived.Laws.Concat
import Derived.Lib.IndexMore
import Derived.Lib.ItoaNum
set_option linter.unusedVariables false
set_option linter.unusedSimpArgs false
set_option maxRecDepth 100000
set_option maxHeartbeats 4000000
namespace Go.Proofs.YtohbafigjpoijaaDoor
open Go.RowKit
theorem sz_list (s : ByteArray) : s.data.toList.length = s.size := Array.length_toList
theorem run_at {P : Program} (t : TypeId) (s : ByteArray) (k : Nat) (c : UInt8) (h : P.underlying t = some .string) (hc : s.data.toList[k]? = some c) (w : World) :
    (Instr.index t (.string s) (.int .i64 (k : Int))).run P w = .ok (.int .u8 (c.toNat : Int)) w := by
  obtain ⟨hlt, e⟩ := List.getElem?_eq_some_iff.1 hc
  rw [sz_list] at hlt
  rw [run_index_string w t s .i64 (k : Int) h, dif_pos ⟨by omega, by omega⟩]
  have : s[(k : Int).toNat]'(by simpa using hlt) = c := by rw [← e]; rfl
  rw [this]
theorem retI {a b : Int} (h : a = b) : Ending.returned (.int .i64 a) = Ending.returned (.int .i64 b) := by rw [h]
def isDig (c : UInt8) : Bool := decide (48 ≤ c.toNat) && decide (c.toNat ≤ 57)
def digs (l : List UInt8) : Nat := l.foldl (fun n c => n * 10 + (c.toNat - 48)) 0
theorem digs_snoc (l : List UInt8) (c : UInt8) : digs (l ++ [c]) = digs l * 10 + (c.toNat - 48) := by simp [digs]
theorem digs_lt (l : List UInt8) (h : ∀ c ∈ l, isDig c = true) : digs l < 10 ^ l.length := by
  rcases List.eq_nil_or_concat l with rfl | ⟨m, c, rfl⟩
  · decide
  · rw [List.concat_eq_append] at h ⊢
    have h1 := digs_lt m (fun x hx => h x (by simp [hx]))
    have h2 := h c (by simp)
    simp only [isDig, Bool.and_eq_true, decide_eq_true_eq] at h2
    rw [digs_snoc, List.length_append]
    simp only [List.length_cons, List.length_nil, Nat.zero_add, Nat.pow_succ]
    omega
termination_by l.length
decreasing_by simp [*]
def numeral (l : List UInt8) : Bool := decide (1 ≤ l.length) && decide (l.length ≤ 4) && l.all isDig && !(decide (l.head? = some 48) && decide (1 < l.length))
def numF (l : List UInt8) (most : Int) : Int := if numeral l = true ∧ (digs l : Int) < most then (digs l : Int) else -1
theorem numF_not {l : List UInt8} {most : Int} (h : numeral l = false) : numF l most = -1 := by simp [numF, h]
theorem take_at {l : List UInt8} {k : Nat} {c : UInt8} (h : l[k]? = some c) : l.take (k + 1) = l.take k ++ [c] := by
  rw [List.take_add_one, h]; rfl
theorem number_walk (s : ByteArray) (most : Int) (w : World) :
    Calls Tryd.prog 81 #[.string s, .int .i64 most] w fun e w' => e = .returned (.int .i64 (numF s.data.toList most)) ∧ w = w' := by
  obtain ⟨l, hl⟩ : ∃ l, s.data.toList = l := ⟨_, rfl⟩
  obtain ⟨n, hn⟩ : ∃ n, s.size = n := ⟨_, rfl⟩
  have hln : l.length = n := by rw [← hl, ← hn]; exact sz_list s
  rw [hl]
  have HAT := hide (fun (k : Nat) (c : UInt8) (h : l[k]? = some c) => run_at (P := Tryd.prog) 9 s k c Tryd.underlying9 (by rw [hl]; exact h))
  have HLN := hide hln
  clear hl hln
  go_enter Tryd.func81, Tryd.ntmps81
  by_cases h1 : n < 1
  · have d1 : (n : Int) < 1 := by omega
    go_wp2
    go_ret
    exact ⟨retI (numF_not (by have := HLN.out; simp [numeral]; omega)).symm, rfl⟩
  have d1 : decide ((n : Int) < 1) = false := by simp; omega
  by_cases h4 : 4 < n
  · have d4 : (4 : Int) < (n : Int) := by omega
    go_wp2
    go_ret
    exact ⟨retI (numF_not (by have := HLN.out; simp [numeral]; omega)).symm, rfl⟩
  have d4 : decide ((4 : Int) < (n : Int)) = false := by simp; omega
  obtain ⟨c0, hc0⟩ : ∃ c, l[0]? = some c := ⟨_, List.getElem?_eq_getElem (by have := HLN.out; omega)⟩
  have x0 : ∀ w', (Instr.index 9 (.string s) (.int .i64 0)).run Tryd.prog w' = .ok (.int .u8 (c0.toNat : Int)) w' := HAT.out 0 c0 hc0
  have hd0 : l.head? = some c0 := by rw [← hc0]; cases l <;> rfl
  by_cases hz : c0.toNat = 48 ∧ 1 < n
  · have e0 : ((c0.toNat : Int) == 48) = true := by simp; omega
    have d5 : (1 : Int) < (n : Int) := by omega
    go_wp2
    go_ret
    refine ⟨retI (numF_not ?_).symm, rfl⟩
    have := HLN.out
    have : c0 = 48 := UInt8.toNat_inj.1 hz.1
    subst this
    simp [numeral, hd0]
    omega
  have hcase : ((c0.toNat : Int) == 48) = false ∨ (((c0.toNat : Int) = 48) ∧ decide ((1 : Int) < (n : Int)) = false) := by
    by_cases h : c0.toNat = 48
    · right; exact ⟨by omega, by simp; omega⟩
    · left; simp; omega
  have hhead : (decide (l.head? = some 48) && decide (1 < l.length)) = false := by
    have hln := HLN.out
    rw [hd0, hln]
    by_cases h : 1 < n
    · have : c0 ≠ 48 := fun e => hz ⟨by rw [e]; rfl, h⟩
      simp [this]
    · simp [h]
  have HH := hide hhead
  clear hz hhead hd0
  rcases hcase with e0 | ⟨e0, e1⟩
  all_goals
    go_wp2_with fail
    go_loopw [5, 6, 27] (fun nv x i wr => ∃ k : Nat, k ≤ n ∧ i = .int .i64 (k : Int) ∧ nv = .int .i64 (digs (l.take k) : Int) ∧ Hid (∀ c ∈ l.take k, isDig c = true) ∧ wr = w) (fun _ _ i _ => n - (intOf i).toNat)
    case atStart => exact ⟨0, Nat.zero_le _, rfl, rfl, hide (by simp), rfl⟩
    case round =>
      obtain ⟨k, hk, rfl, rfl, HD, rfl⟩ := hrel
      by_cases hlt : k < n
      case pos =>
        obtain ⟨c, hc⟩ : ∃ c, l[k]? = some c := ⟨_, List.getElem?_eq_getElem (by have := HLN.out; omega)⟩
        have x1 : ∀ w', (Instr.index 9 (.string s) (.int .i64 (k : Int))).run Tryd.prog w' = .ok (.int .u8 (c.toNat : Int)) w' := HAT.out k c hc
        by_cases hd : isDig c = true
        case neg =>
          have hno : numeral l = false := by
            have : l.all isDig = false := by
              rw [Bool.eq_false_iff]
              intro h
              exact hd (List.all_eq_true.1 h c (List.mem_of_getElem? hc))
            simp [numeral, this]
          have hor : c.toNat < 48 ∨ 57 < c.toNat := by
            simp only [isDig, Bool.and_eq_true, decide_eq_true_eq] at hd
            omega
          clear hd hc
          rcases hor with h | h
          · have q1 : (c.toNat : Int) < 48 := by omega
            go_wp2
            go_ret
            exact ⟨retI (numF_not hno).symm, rfl⟩
          · have q1 : decide ((c.toNat : Int) < 48) = false := by simp; omega
            have q2 : (57 : Int) < (c.toNat : Int) := by omega
            go_wp2
            go_ret
            exact ⟨retI (numF_not hno).symm, rfl⟩
        case pos =>
          have hb := hd
          simp only [isDig, Bool.and_eq_true, decide_eq_true_eq] at hb
          have q1 : decide ((c.toNat : Int) < 48) = false := by simp; omega
          have q2 : decide ((57 : Int) < (c.toNat : Int)) = false := by simp; omega
          have hHD : Hid (∀ x ∈ l.take (k + 1), isDig x = true) := hide (fun x hx => by
            rw [take_at hc, List.mem_append] at hx
            rcases hx with hx | hx
            · exact HD.out x hx
            · rw [List.mem_singleton.1 hx]; exact hd)
          have hle : digs (l.take k) ≤ 999 := by
            have h1 := digs_lt _ HD.out
            have h2 : (l.take k).length ≤ 3 := by simp; omega
            have h3 : 10 ^ (l.take k).length ≤ 10 ^ 3 := Nat.pow_le_pow_right (by decide) h2
            omega
          have hsn := hide (show digs (l.take (k + 1)) = digs (l.take k) * 10 + (c.toNat - 48) by rw [take_at hc, digs_snoc])
          clear HD hd hc
          obtain ⟨D, hD⟩ : ∃ D, digs (l.take k) = D := ⟨_, rfl⟩
          rw [hD] at hle hsn ⊢
          clear hD
          obtain ⟨c1, hc1⟩ : ∃ x, c.toNat = x + 48 := ⟨c.toNat - 48, by omega⟩
          go_wp2_with fail
          go_roundw
          case rel =>
            exact ⟨k + 1, by omega, by go_num, congrArg (Value.int .i64) (by have := hsn.out; omega), hHD, trivial⟩
          case measure => simp [intOf]; omega
      case neg =>
        obtain rfl : k = n := by omega
        have hall : l.take k = l := List.take_of_length_le (by have := HLN.out; omega)
        rw [hall] at HD ⊢
        have hnum : numeral l = true := by
          have h1 := HLN.out
          have h2 := HH.out
          have h3 : l.all isDig = true := List.all_eq_true.2 HD.out
          simp only [numeral, h2, h3]
          simp; omega
        have hF := hide (show numF l most = if (digs l : Int) < most then (digs l : Int) else -1 by simp [numF, hnum])
        obtain ⟨D, hD⟩ : ∃ D, digs l = D := ⟨_, rfl⟩
        rw [hD] at hF ⊢
        clear HD hall hnum hD
        by_cases hm : (D : Int) < most
        · have q1 : decide (most ≤ (D : Int)) = false := by simp; omega
          go_wp2
          go_ret
          exact ⟨retI (by rw [hF.out, if_pos hm]), rfl⟩
        · have q1 : most ≤ (D : Int) := by omega
          go_wp2
          go_ret
          exact ⟨retI (by rw [hF.out, if_neg (by omega)]), rfl⟩
theorem inD_walk (a b c : Int) (w : World) : Calls Tryd.prog 40 #[.int .i64 a, .int .i64 b, .int .i64 c] w fun e w' => e = .returned (.bool (decide (b ≤ a) && decide (a ≤ c))) ∧ w = w' := by
  go_enter Tryd.func40, Tryd.ntmps40
  by_cases h : b ≤ a
  · by_cases h2 : a ≤ c
    · go_wp2
      go_ret
      exact ⟨by simp [h, h2], rfl⟩
    · have h3 : decide (a ≤ c) = false := by simp; omega
      go_wp2
      go_ret
      exact ⟨by simp [h, h2], rfl⟩
  · have h3 : decide (b ≤ a) = false := by simp; omega
    go_wp2
    go_ret
    exact ⟨by simp [h], rfl⟩
theorem digits_walk (s : ByteArray) (most : Int) (w : World) (hmost : most ≤ 1000000) :
    Calls Tryd.prog 47 #[.string s, .int .i64 most] w fun e w' => e = .returned (.int .i64 (numF s.data.toList (most + 1))) ∧ w = w' := by
  obtain ⟨l, hl⟩ : ∃ l, s.data.toList = l := ⟨_, rfl⟩
  obtain ⟨n, hn⟩ : ∃ n, s.size = n := ⟨_, rfl⟩
  have hln : l.length = n := by rw [← hl, ← hn]; exact sz_list s
  rw [hl]
  have HAT := hide (fun (k : Nat) (c : UInt8) (h : l[k]? = some c) => run_at (P := Tryd.prog) 9 s k c Tryd.underlying9 (by rw [hl]; exact h))
  have HLN := hide hln
  clear hl hln
  go_enter Tryd.func47, Tryd.ntmps47
  go_wp2_with fail
  go_loopw [5, 6] (fun nv i wr => ∃ k : Nat, k ≤ n ∧ k ≤ 5 ∧ i = .int .i64 (k : Int) ∧ nv = .int .i64 (digs (l.take k) : Int) ∧ Hid (∀ c ∈ l.take k, isDig c = true) ∧ wr = w) (fun _ i _ => 5 - (intOf i).toNat)
  case atStart => exact ⟨0, Nat.zero_le _, Nat.zero_le _, rfl, rfl, hide (by simp), rfl⟩
  case round =>
    obtain ⟨k, hk, hk5, rfl, rfl, HD, rfl⟩ := hrel
    by_cases hlt : k < n ∧ k < 5
    case pos =>
      obtain ⟨hlt, hlt5⟩ := hlt
      obtain ⟨c, hc⟩ : ∃ c, l[k]? = some c := ⟨_, List.getElem?_eq_getElem (by have := HLN.out; omega)⟩
      have x1 : ∀ w', (Instr.index 9 (.string s) (.int .i64 (k : Int))).run Tryd.prog w' = .ok (.int .u8 (c.toNat : Int)) w' := HAT.out k c hc
      by_cases hd : isDig c = true
      case neg =>
        have hno : numeral l = false := by
          have : l.all isDig = false := by
            rw [Bool.eq_false_iff]
            intro h
            exact hd (List.all_eq_true.1 h c (List.mem_of_getElem? hc))
          simp [numeral, this]
        have hor : c.toNat < 48 ∨ 57 < c.toNat := by
          simp only [isDig, Bool.and_eq_true, decide_eq_true_eq] at hd
          omega
        clear hd hc
        rcases hor with h | h
        · have q1 : (c.toNat : Int) < 48 := by omega
          go_wp2
          go_ret
          exact ⟨retI (numF_not hno).symm, rfl⟩
        · have q1 : decide ((c.toNat : Int) < 48) = false := by simp; omega
          have q2 : (57 : Int) < (c.toNat : Int) := by omega
          go_wp2
          go_ret
          exact ⟨retI (numF_not hno).symm, rfl⟩
      case pos =>
        have hb := hd
        simp only [isDig, Bool.and_eq_true, decide_eq_true_eq] at hb
        have q1 : decide ((c.toNat : Int) < 48) = false := by simp; omega
        have q2 : decide ((57 : Int) < (c.toNat : Int)) = false := by simp; omega
        have hHD : Hid (∀ x ∈ l.take (k + 1), isDig x = true) := hide (fun x hx => by
          rw [take_at hc, List.mem_append] at hx
          rcases hx with hx | hx
          · exact HD.out x hx
          · rw [List.mem_singleton.1 hx]; exact hd)
        have hle : digs (l.take k) ≤ 9999 := by
          have h1 := digs_lt _ HD.out
          have h2 : (l.take k).length ≤ 4 := by simp; omega
          have h3 : 10 ^ (l.take k).length ≤ 10 ^ 4 := Nat.pow_le_pow_right (by decide) h2
          omega
        have hsn := hide (show digs (l.take (k + 1)) = digs (l.take k) * 10 + (c.toNat - 48) by rw [take_at hc, digs_snoc])
        clear HD hd hc
        obtain ⟨D, hD⟩ : ∃ D, digs (l.take k) = D := ⟨_, rfl⟩
        rw [hD] at hle hsn ⊢
        clear hD
        obtain ⟨c1, hc1⟩ : ∃ x, c.toNat = x + 48 := ⟨c.toNat - 48, by omega⟩
        go_wp2_with fail
        go_roundw
        case rel =>
          refine ⟨k + 1, by omega, by omega, by go_num, congrArg (Value.int .i64) (by have := hsn.out; omega), hHD, trivial⟩
        case measure => simp [intOf]; omega
    case neg =>
      have hcut : decide (k < n) = false ∨ (k = 5 ∧ 5 < n) := by
        by_cases h : k < n
        · right; exact ⟨by omega, by omega⟩
        · left; simp; omega
      have HNUM := hide (show numF l (most + 1) = if (1 ≤ n ∧ n ≤ 4) ∧ ¬ (1 < n ∧ l.head? = some 48) ∧ (digs (l.take k) : Int) ≤ most then (digs (l.take k) : Int) else -1 from by
        have hln := HLN.out
        by_cases h4 : 1 ≤ n ∧ n ≤ 4
        · have hkn : k = n := by omega
          have hall : l.take k = l := List.take_of_length_le (by omega)
          have h3 : l.all isDig = true := List.all_eq_true.2 (by rw [← hall]; exact HD.out)
          rw [hall]
          by_cases hh : 1 < n ∧ l.head? = some 48
          · rw [numF_not (by simp [numeral, hh.2]; omega), if_neg (fun h => h.2.1 hh)]
          · have hnum : numeral l = true := by
              have : (decide (l.head? = some 48) && decide (1 < l.length)) = false := by
                rw [Bool.eq_false_iff]; intro h
                simp only [Bool.and_eq_true, decide_eq_true_eq] at h
                exact hh ⟨by omega, h.1⟩
              show (decide (1 ≤ l.length) && decide (l.length ≤ 4) && l.all isDig && !(decide (l.head? = some 48) && decide (1 < l.length))) = true
              rw [this, h3, decide_eq_true (show 1 ≤ l.length by omega), decide_eq_true (show l.length ≤ 4 by omega)]
              rfl
            by_cases hm : (digs l : Int) ≤ most
            · rw [if_pos (show (1 ≤ n ∧ n ≤ 4) ∧ ¬ (1 < n ∧ l.head? = some 48) ∧ (digs l : Int) ≤ most from ⟨by omega, hh, hm⟩), numF, if_pos (show numeral l = true ∧ (digs l : Int) < most + 1 from ⟨hnum, by omega⟩)]
            · rw [if_neg (fun h => hm h.2.2), numF, if_neg (show ¬ (numeral l = true ∧ (digs l : Int) < most + 1) from fun h => hm (by omega))]
        · rw [numF_not (show numeral l = false by simp [numeral]; omega), if_neg (show ¬ ((1 ≤ n ∧ n ≤ 4) ∧ ¬ (1 < n ∧ l.head? = some 48) ∧ (digs (l.take k) : Int) ≤ most) from fun h => h4 h.1)])
      clear hlt HD
      obtain ⟨D, hD⟩ : ∃ D, digs (l.take k) = D := ⟨_, rfl⟩
      rw [hD] at HNUM ⊢
      clear hD
      by_cases hin : 1 ≤ n ∧ n ≤ 4
      case neg =>
        have HI := hide (HNUM.out.trans (if_neg (fun h => hin h.1)))
        have HC := hide (fun w => show Calls Tryd.prog 40 #[.int .i64 (n : Int), .int .i64 1, .int .i64 4] w fun e w' => e = .returned (.bool false) ∧ w = w' from
          (inD_walk (n : Int) 1 4 w).mono fun e w' ⟨h1, h2⟩ => ⟨by rw [h1]; congr; simp; omega, h2⟩)
        clear hin HNUM
        rcases hcut with q | ⟨rfl, q⟩
        all_goals
          go_wp2_with (go_at_call 40; refine (HC.out _).mono ?_; rintro e w1 ⟨rfl, rfl⟩)
          go_ret
          exact ⟨retI HI.out.symm, rfl⟩
      case pos =>
        have HC := hide (fun w => show Calls Tryd.prog 40 #[.int .i64 (n : Int), .int .i64 1, .int .i64 4] w fun e w' => e = .returned (.bool true) ∧ w = w' from
          (inD_walk (n : Int) 1 4 w).mono fun e w' ⟨h1, h2⟩ => ⟨by rw [h1]; congr; simp; omega, h2⟩)
        obtain ⟨c0, hc0⟩ : ∃ c, l[0]? = some c := ⟨_, List.getElem?_eq_getElem (by have := HLN.out; omega)⟩
        have x0 : ∀ w', (Instr.index 9 (.string s) (.int .i64 0)).run Tryd.prog w' = .ok (.int .u8 (c0.toNat : Int)) w' := HAT.out 0 c0 hc0
        have hd0 : l.head? = some c0 := by rw [← hc0]; cases l <;> rfl
        by_cases hm : (D : Int) ≤ most
        case neg =>
          have q2 : most < (D : Int) := by omega
          have HI := hide (HNUM.out.trans (if_neg (fun h => hm h.2.2)))
          clear hm HNUM
          have q := hcut.resolve_right (fun h => by omega)
          all_goals
            go_wp2_with (go_at_call 40; refine (HC.out _).mono ?_; rintro e w1 ⟨rfl, rfl⟩)
            go_ret
            exact ⟨retI HI.out.symm, rfl⟩
        case pos =>
          have q2 : decide (most < (D : Int)) = false := by simp; omega
          by_cases h1 : 1 < n
          case neg =>
            have q3 : decide ((1 : Int) < (n : Int)) = false := by simp; omega
            have HI := hide (HNUM.out.trans (if_pos ⟨hin, fun h => h1 h.1, hm⟩))
            clear HNUM
            have q := hcut.resolve_right (fun h => by omega)
            all_goals
              go_wp2_with (go_at_call 40; refine (HC.out _).mono ?_; rintro e w1 ⟨rfl, rfl⟩)
              go_ret
              exact ⟨retI HI.out.symm, rfl⟩
          case pos =>
            have q3 : (1 : Int) < (n : Int) := by omega
            by_cases hz : c0.toNat = 48
            · have q4 : (c0.toNat : Int) = 48 := by omega
              have hc48 : c0 = 48 := UInt8.toNat_inj.1 hz
              have HI := hide (HNUM.out.trans (if_neg (show ¬ ((1 ≤ n ∧ n ≤ 4) ∧ ¬ (1 < n ∧ l.head? = some 48) ∧ (D : Int) ≤ most) from fun h => h.2.1 ⟨h1, by rw [hd0, hc48]⟩)))
              clear hc48 hc0 hd0 hz HNUM
              have q := hcut.resolve_right (fun h => by omega)
              all_goals
                go_wp2_with (go_at_call 40; refine (HC.out _).mono ?_; rintro e w1 ⟨rfl, rfl⟩)
                go_ret
                exact ⟨retI HI.out.symm, rfl⟩
            · have q4 : ((c0.toNat : Int) == 48) = false := by simp; omega
              have HI := hide (HNUM.out.trans (if_pos (show ((1 ≤ n ∧ n ≤ 4) ∧ ¬ (1 < n ∧ l.head? = some 48) ∧ (D : Int) ≤ most) from ⟨hin, fun h => hz (by rw [hd0] at h; rw [Option.some.inj h.2]; rfl), hm⟩)))
              clear hc0 hd0 hz HNUM
              have q := hcut.resolve_right (fun h => by omega)
              all_goals
                go_wp2_with (go_at_call 40; refine (HC.out _).mono ?_; rintro e w1 ⟨rfl, rfl⟩)
                go_ret
                exact ⟨retI HI.out.symm, rfl⟩
def strV (l : List UInt8) : Value := .string ⟨l.toArray⟩
theorem strV_of (s : ByteArray) : strV s.data.toList = .string s := by simp [strV]
def pstep (b : UInt8) (acc : List (List UInt8)) (x : UInt8) : List (List UInt8) := if x = b then acc ++ [[]] else acc.dropLast ++ [acc.getLastD [] ++ [x]]
def pieces (b : UInt8) (l : List UInt8) : List (List UInt8) := l.foldl (pstep b) [[]]
theorem pieces_snoc (b : UInt8) (l : List UInt8) (x : UInt8) : pieces b (l ++ [x]) = pstep b (pieces b l) x := by simp [pieces]
theorem pfold_acc (b : UInt8) : ∀ (l : List UInt8) (acc : List (List UInt8)) (m : List UInt8), l.foldl (pstep b) (acc ++ [m]) = acc ++ l.foldl (pstep b) [m]
  | [], acc, m => rfl
  | x :: r, acc, m => by
    simp only [List.foldl_cons, pstep]
    split
    · rw [pfold_acc b r (acc ++ [m]) [], show [m] ++ [[]] = [m] ++ [([] : List UInt8)] from rfl, pfold_acc b r [m] []]; simp
    · simp only [List.dropLast_concat, List.getLastD_concat, List.dropLast_singleton, List.nil_append, List.getLastD_cons, List.getLastD_nil]
      exact pfold_acc b r acc (m ++ [x])
theorem pieces_eq (b : UInt8) (l : List UInt8) (hl : b ∉ l) : pieces b l = [l] := by
  rcases List.eq_nil_or_concat l with rfl | ⟨m, c, rfl⟩
  · rfl
  · rw [List.concat_eq_append] at hl ⊢
    rw [pieces_snoc, pieces_eq b m (fun h => hl (by simp [h])), pstep, if_neg (fun h => hl (by simp [h]))]
    rfl
termination_by l.length
decreasing_by simp [*]
theorem pieces_cut (b : UInt8) (l r : List UInt8) (hl : b ∉ l) : pieces b (l ++ b :: r) = l :: pieces b r := by
  have h1 : l.foldl (pstep b) [[]] = [l] := pieces_eq b l hl
  have h2 := pfold_acc b r [l] []
  unfold pieces
  rw [List.foldl_append, h1, List.foldl_cons, pstep, if_pos rfl, h2]
  rfl
theorem pieces_pos (b : UInt8) (l : List UInt8) : 0 < (pieces b l).length := by
  rcases List.eq_nil_or_concat l with rfl | ⟨m, c, rfl⟩
  · simp [pieces]
  · rw [List.concat_eq_append, pieces_snoc, pstep]; split <;> simp
theorem pieces_len (b : UInt8) (l : List UInt8) : (pieces b l).length ≤ l.length + 1 := by
  rcases List.eq_nil_or_concat l with rfl | ⟨m, c, rfl⟩
  · simp [pieces]
  · have := pieces_len b m
    rw [List.concat_eq_append, pieces_snoc, pstep]; split <;> simp <;> omega
termination_by l.length
decreasing_by simp [*]
theorem pieces_each (b : UInt8) (l : List UInt8) : ∀ m ∈ pieces b l, m.length ≤ l.length := by
  rcases List.eq_nil_or_concat l with rfl | ⟨r, c, rfl⟩
  · simp [pieces]
  · have ih := pieces_each b r
    intro m hm
    rw [List.concat_eq_append] at hm ⊢
    rw [pieces_snoc, pstep] at hm
    simp only [List.length_append, List.length_cons, List.length_nil]
    split at hm
    · rcases List.mem_append.1 hm with h | h
      · have := ih m h; omega
      · rw [List.mem_singleton.1 h]; simp
    · rcases List.mem_append.1 hm with h | h
      · have := ih m (List.dropLast_subset _ h); omega
      · rw [List.mem_singleton.1 h]
        have hp := pieces_pos b r
        have : (pieces b r).getLastD [] ∈ pieces b r := by
          rw [List.getLastD_eq_getLast?, List.getLast?_eq_some_getLast (List.ne_nil_of_length_pos hp)]
          exact List.getLast_mem _
        have := ih _ this
        simp only [List.length_append, List.length_cons, List.length_nil]; omega
termination_by l.length
decreasing_by simp [*]
theorem Tryd.infoString : (Tryd.prog.info? 9).map (fun i => (i.zero, i.size, i.bytes)) = some (some (.string ⟨#[]⟩), 1, 16) := by kernel_rfl
theorem pieces_walk (s : ByteArray) (b : UInt8) (W : World) (hs : s.size ≤ 1048576) :
    Calls Tryd.prog 46 #[.string s, .int .u8 (b.toNat : Int)] W fun e W' =>
      ∃ v, e = .returned v ∧ W'.ownsRow W.heap.size 9 1 v (pieces b s.data.toList).length ((pieces b s.data.toList).map strV) ∧ Below W.heap.size W W' := by
  obtain ⟨i0, hi0, hz0, hz1, hz2⟩ := info_parts Tryd.infoString
  obtain ⟨l, hl⟩ : ∃ l, s.data.toList = l := ⟨_, rfl⟩
  obtain ⟨n, hn⟩ : ∃ n, s.size = n := ⟨_, rfl⟩
  have hln : l.length = n := by rw [← hl, ← hn]; exact sz_list s
  have HEX := hide (fun (k : Nat) (c : UInt8) (h : l[k]? = some c) => show s.extract k (k + 1) = ⟨#[c]⟩ from by
    have : s = ⟨l.toArray⟩ := by rw [← hl]
    rw [this, ByteArray.extract_mk, show k + 1 - k = 1 by omega, List.take_one, List.head?_drop, h]; rfl)
  rw [hl]
  have HAT := hide (fun (k : Nat) (c : UInt8) (h : l[k]? = some c) => run_at (P := Tryd.prog) 9 s k c Tryd.underlying9 (by rw [hl]; exact h))
  have HLN := hide hln
  rw [hn] at hs
  clear hl hln
  go_enter Tryd.func46, Tryd.ntmps46
  go_wp2_with fail
  have HO0 := hide (World.ownsRow_lit (e := 9) (size := 1) W #[.string ⟨#[]⟩] 1 (Nat.le_refl _) (by decide) rfl)
  have HB0 := hide ((Below.refl W.heap.size W).alloc (Nat.le_refl _) (.cells #[.string ⟨#[]⟩] 9))
  generalize W.alloc (.cells #[.string ⟨#[]⟩] 9) = W1 at *
  go_loopw [5, 6] (fun v i wr => ∃ k : Nat, k ≤ n ∧ i = .int .i64 (k : Int) ∧ Hid (wr.ownsRow W.heap.size 9 1 v (pieces b (l.take k)).length ((pieces b (l.take k)).map strV)) ∧ Hid (Below W.heap.size W wr)) (fun _ i _ => n - (intOf i).toNat)
  case atStart => exact ⟨0, Nat.zero_le _, rfl, HO0, HB0⟩
  case round =>
    obtain ⟨k, hk, rfl, HO, HB⟩ := hrel
    by_cases hlt : k < n
    case pos =>
      obtain ⟨c, hc⟩ : ∃ c, l[k]? = some c := ⟨_, List.getElem?_eq_getElem (by have := HLN.out; omega)⟩
      have x1 : ∀ w', (Instr.index 9 (.string s) (.int .i64 (k : Int))).run Tryd.prog w' = .ok (.int .u8 (c.toNat : Int)) w' := HAT.out k c hc
      have HSN := hide (show pieces b (l.take (k + 1)) = pstep b (pieces b (l.take k)) c by rw [take_at hc, pieces_snoc])
      have HEXc := hide (HEX.out k c hc)
      have hlen : (pieces b (l.take k)).length ≤ k + 1 := Nat.le_trans (pieces_len _ _) (by simp; omega)
      have hpos := pieces_pos b (l.take k)
      have HEA := hide (pieces_each b (l.take k))
      have htk : (l.take k).length ≤ k := by simp; omega
      clear hc
      generalize pieces b (l.take k) = p at *
      obtain ⟨j, hj⟩ : ∃ j, p.length = j + 1 := ⟨p.length - 1, by omega⟩
      by_cases hcb : c = b
      case pos =>
        have e0 : ((c.toNat : Int) == (b.toNat : Int)) = true := by rw [hcb]; simp
        have e1 : (c.toNat : Int) = (b.toNat : Int) := by rw [hcb]
        have HP := hide (show pieces b (l.take (k + 1)) = p ++ [[]] by rw [HSN.out, pstep, if_pos hcb])
        clear hcb HSN e0
        have HLIT := hide (show Reads (wr.alloc (.cells #[.string ⟨#[]⟩] 9)) (wr.heap.size + 1) 1 (some ⟨wr.heap.size, 0, none⟩) 1 [.string ⟨#[]⟩] from
          ⟨rfl, fun _ => ⟨_, rfl, Nat.lt_succ_self _, fun j u hu => by
            rw [addr_add, Nat.zero_add, cell_of_row _ _ _ _ _ _ (heap_alloc_new wr _)]
            simpa using hu⟩⟩)
        have hb3 : Below wr.heap.size wr (wr.alloc (.cells #[.string ⟨#[]⟩] 9)) := (Below.refl _ _).alloc (Nat.le_refl _) _
        have hbz := HB.out.size
        have HO4 := hide (HO.out.alloc (.cells #[.string ⟨#[]⟩] 9))
        have HB4 := hide (HB.out.alloc hbz (.cells #[.string ⟨#[]⟩] 9))
        clear hb3 HO HB hj
        go_wp2_with (at_builtin; refine wpList_append_any _ rfl (.tmp 19) (.tmp 20) 82 rfl W.heap.size 9 i0 _ 1 16 Tryd.underlying82 hi0 hz0 hz1 hz2 rfl (by omega) _ p.length (p.map strV) rfl HO4.out (wr.heap.size + 1) (some ⟨wr.heap.size, 0, none⟩) 1 1 [.string ⟨#[]⟩] rfl HLIT.out (by intro u hu; simp at hu; subst hu; rfl) (by simp only [maxLen]; omega) (by omega) (by simp; omega) ?_; intro v5 w5 hown5 hg5 hat5; have HO5 := hide hown5; have HB5 := hide (HB4.out.grown hg5 (by simp; omega) (fun q hq => (HO4.out.lt q hq).1)); clear hown5 hg5 hat5)
        go_roundw
        case rel => exact ⟨k + 1, by omega, by go_num, hide (by rw [HP.out]; simpa [strV] using HO5.out), HB5⟩
        case measure => simp [intOf]; omega
      case neg =>
        have e0 : ((c.toNat : Int) == (b.toNat : Int)) = false := by
          have : c.toNat ≠ b.toNat := fun e => hcb (UInt8.toNat_inj.1 e)
          simp; omega
        have e1 : decide (c.toNat = b.toNat) = false := by
          have : c.toNat ≠ b.toNat := fun e => hcb (UInt8.toNat_inj.1 e)
          simp; omega
        obtain ⟨q, z, rfl⟩ : ∃ q z, p = q ++ [z] := by
          rcases List.eq_nil_or_concat p with rfl | ⟨q, z, rfl⟩
          · simp at hj
          · exact ⟨q, z, by rw [List.concat_eq_append]⟩
        obtain rfl : j = q.length := by simp at hj; omega
        have HP := hide (show pieces b (l.take (k + 1)) = q ++ [z ++ [c]] by rw [HSN.out, pstep, if_neg hcb]; simp)
        clear hcb HSN
        obtain ⟨g, cap, hv, hgw⟩ := HO.out.form hpos
        subst hv
        have c1 : wr.cell? ⟨g, q.length, none⟩ = some (.string ⟨z.toArray⟩) := by
          rw [HO.out.cellAt q.length (by simp)]
          simp [strV]
        have c2 : wr.frozen? ⟨g, q.length, none⟩ = false := HO.out.frozenAt q.length
        have HST := hide (HO.out.stored q.length (.string ⟨(z ++ [c]).toArray⟩))
        have hgl := (HO.out.lt g rfl)
        have hx : s.extract k (k + 1) = ⟨#[c]⟩ := HEXc.out
        have hzl := HEA.out z (by simp)
        have hadd : ∀ w', (Op.stringOp .add ⟨z.toArray⟩ ⟨#[c]⟩).run Tryd.prog w' = .ok (.string ⟨(z ++ [c]).toArray⟩) w' := fun w' => run_string_add_lists w' z [c] (by omega) (by simp)
        clear hzl htk HEA
        clear hpos
        simp only [List.length_append, List.length_cons, List.length_nil, Nat.zero_add] at *
        have HB5 := hide (HB.out.grown HST.out.2 (by have := HB.out.size; omega) (fun q hq => by cases hq; exact hgl.1))
        go_wp2
        go_region
        go_wp2
        go_roundw
        case rel => exact ⟨k + 1, by omega, by go_num, hide (by rw [HP.out]; simpa [strV] using HST.out.1.drew), hide HB5.out.drew⟩
        case measure => simp [intOf]; omega
    case neg =>
      obtain rfl : k = n := by omega
      have hall : l.take k = l := List.take_of_length_le (by have := HLN.out; omega)
      rw [hall] at HO
      go_wp2
      go_ret
      exact ⟨_, rfl, HO.out, HB.out⟩
def cutB (b : UInt8) : List UInt8 → List UInt8 × List UInt8
  | [] => ([], [])
  | x :: r => if x = b then ([], r) else (x :: (cutB b r).1, (cutB b r).2)
theorem cutB_not (b : UInt8) : ∀ (l : List UInt8), b ∉ l → cutB b l = (l, [])
  | [], _ => rfl
  | x :: r, h => by
    rw [cutB, if_neg (fun e => h (by simp [e])), cutB_not b r (fun e => h (by simp [e]))]
theorem cutB_at (b : UInt8) : ∀ (l r : List UInt8), b ∉ l → cutB b (l ++ b :: r) = (l, r)
  | [], r, _ => by simp [cutB]
  | x :: l, r, h => by
    rw [List.cons_append, cutB, if_neg (fun e => h (by simp [e])), cutB_at b l r (fun e => h (by simp [e]))]
theorem split_first {b : UInt8} : ∀ {l : List UInt8}, b ∈ l → ∃ u v, l = u ++ b :: v ∧ b ∉ u
  | x :: r, h => by
    by_cases e : x = b
    · exact ⟨[], r, by simp [e], by simp⟩
    · obtain ⟨u, v, rfl, hu⟩ := split_first (l := r) (by rcases List.mem_cons.1 h with h | h; exact absurd h.symm e; exact h)
      exact ⟨x :: u, v, rfl, fun h => by rcases List.mem_cons.1 h with h | h; exact e h.symm; exact hu h⟩
theorem index_one (b : UInt8) : ∀ (l : List UInt8), (b ∉ l → Lib.index l [b] = -1) ∧ ∀ u v, l = u ++ b :: v → b ∉ u → Lib.index l [b] = u.length
  | [] => ⟨fun _ => rfl, fun u v h => by simp at h⟩
  | x :: r => by
    obtain ⟨h1, h2⟩ := index_one b r
    refine ⟨fun h => ?_, fun u v h hu => ?_⟩
    · have e : b ≠ x := fun e => h (by simp [e])
      rw [Lib.index, if_neg (by simp [List.isPrefixOf, e]), h1 (fun e => h (by simp [e]))]
      rfl
    · cases u with
      | nil =>
        simp only [List.nil_append, List.cons.injEq] at h
        rw [Lib.index, if_pos (by simp [List.isPrefixOf, h.1])]
        rfl
      | cons y u =>
        simp only [List.cons_append, List.cons.injEq] at h
        obtain ⟨rfl, h⟩ := h
        have e : b ≠ x := fun e => hu (by simp [e])
        have := h2 u v h (fun e => hu (by simp [e]))
        rw [Lib.index, if_neg (by simp [List.isPrefixOf, e]), this, if_neg (by simp)]
        simp
theorem cut_one (b : UInt8) (l : List UInt8) : Lib.cut l [b] = ((cutB b l).1, (cutB b l).2, decide (b ∈ l)) := by
  by_cases h : b ∈ l
  · obtain ⟨u, v, rfl, hu⟩ := split_first h
    have := (index_one b _).2 u v rfl hu
    rw [Lib.cut, this, if_pos (by omega), cutB_at b u v hu]
    simp
  · rw [Lib.cut, (index_one b l).1 h, if_neg (by decide), cutB_not b l h]
    simp [h]
theorem numF_bad {l : List UInt8} {m : Int} {x : UInt8} (h : x ∈ l) (hx : isDig x = false) : numF l m = -1 := by
  refine numF_not ?_
  have : l.all isDig = false := by
    rw [Bool.eq_false_iff]
    intro e
    rw [List.all_eq_true.1 e x h] at hx; cases hx
  simp [numeral, this]
theorem numF_lt (l : List UInt8) (m : Int) (h : 0 ≤ numF l m) : numF l m < m := by unfold numF at *; split <;> simp_all
theorem dig_dec (u : Nat) (h : u < 10) : Lib.decDigits u = [UInt8.ofNat (48 + u)] := by rw [Lib.decDigits, dif_pos h]
theorem dec_more (u : Nat) (h : ¬ u < 10) : Lib.decDigits u = Lib.decDigits (u / 10) ++ [UInt8.ofNat (48 + u % 10)] := by rw [Lib.decDigits, dif_neg h]
theorem dec_len (u k : Nat) (h : u < 10 ^ (k + 1)) : (Lib.decDigits u).length ≤ k + 1 := by
  induction k generalizing u with
  | zero => rw [dig_dec u (by simpa using h)]; simp
  | succ k ih =>
    by_cases hu : u < 10
    · rw [dig_dec u hu]; simp
    · rw [dec_more u hu]
      have := ih (u / 10) (by rw [Nat.pow_succ] at h; omega)
      simp; omega
end Go.Proofs.YtohbafigjpoijaaDoor
