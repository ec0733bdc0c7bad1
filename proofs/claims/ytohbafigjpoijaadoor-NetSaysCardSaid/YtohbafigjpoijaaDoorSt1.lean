/- Texts: numerals (packet.Number, wireref.Digits). -/
import Derived.Test.YtohbafigjpoijaaDoorG1
set_option linter.unusedVariables false
set_option linter.unusedSimpArgs false
set_option maxRecDepth 100000
set_option maxHeartbeats 4000000
namespace Go.Proofs.YtohbafigjpoijaaDoor
open Go.RowKit

theorem sz_list (s : ByteArray) : s.data.toList.length = s.size := Array.length_toList
theorem run_at {P : Program} (t : TypeId) (s : ByteArray) (k : Nat) (c : UInt8) (h : P.underlying t = some .string) (hc : s.data.toList[k]? = some c) (w : World) :
    (Instr.index t (.string s) (.int .i64 (k : Int))).run P w = .ok (.int .u8 (c.toNat : Int)) w := by
  obtain ⟨hlt, e⟩ := List.getElem?_eq_some_iff.1 hc
  rw [sz_list] at hlt
  rw [run_index_string w t s .i64 (k : Int) h, dif_pos ⟨by omega, by omega⟩]
  have : s[(k : Int).toNat]'(by simpa using hlt) = c := by rw [← e]; rfl
  rw [this]
theorem run_at0 {P : Program} (t : TypeId) (s : ByteArray) (c : UInt8) (h : P.underlying t = some .string) (hc : s.data.toList[0]? = some c) (w : World) :
    (Instr.index t (.string s) (.int .i64 0)).run P w = .ok (.int .u8 (c.toNat : Int)) w := run_at t s 0 c h hc w

theorem retI {a b : Int} (h : a = b) : Ending.returned (.int .i64 a) = Ending.returned (.int .i64 b) := by rw [h]

def isDig (c : UInt8) : Bool := decide (48 ≤ c.toNat) && decide (c.toNat ≤ 57)
/-- The number that digits tell. -/
def digs (l : List UInt8) : Nat := l.foldl (fun n c => n * 10 + (c.toNat - 48)) 0
theorem digs_snoc (l : List UInt8) (c : UInt8) : digs (l ++ [c]) = digs l * 10 + (c.toNat - 48) := by simp [digs]
theorem digs_lt (l : List UInt8) (h : ∀ c ∈ l, isDig c = true) : digs l < 10 ^ l.length := by
  rcases List.eq_nil_or_concat l with rfl | ⟨m, c, rfl⟩
  · decide
  · rw [List.concat_eq_append] at h ⊢
    have h1 := digs_lt m (fun x hx => h x (by simp [hx]))
    have h2 := h c (by simp)
    simp only [isDig, Bool.and_eq_true, decide_eq_true_eq] at h2
    rw [digs_snoc, List.length_append]
    simp only [List.length_cons, List.length_nil, Nat.zero_add, Nat.pow_succ]
    omega
termination_by l.length
decreasing_by simp [*]
/-- A numeral without noughts ahead, at most four digits. -/
def numeral (l : List UInt8) : Bool := decide (1 ≤ l.length) && decide (l.length ≤ 4) && l.all isDig && !(decide (l.head? = some 48) && decide (1 < l.length))
/-- What a text tells: a number below `most`, or -1. -/
def numF (l : List UInt8) (most : Int) : Int := if numeral l = true ∧ (digs l : Int) < most then (digs l : Int) else -1
theorem numF_not {l : List UInt8} {most : Int} (h : numeral l = false) : numF l most = -1 := by simp [numF, h]

theorem take_at {l : List UInt8} {k : Nat} {c : UInt8} (h : l[k]? = some c) : l.take (k + 1) = l.take k ++ [c] := by
  rw [List.take_add_one, h]; rfl

theorem number_walk (s : ByteArray) (most : Int) (w : World) :
    Calls Tryd.prog 81 #[.string s, .int .i64 most] w fun e w' => e = .returned (.int .i64 (numF s.data.toList most)) ∧ w = w' := by
  obtain ⟨l, hl⟩ : ∃ l, s.data.toList = l := ⟨_, rfl⟩
  obtain ⟨n, hn⟩ : ∃ n, s.size = n := ⟨_, rfl⟩
  have hln : l.length = n := by rw [← hl, ← hn]; exact sz_list s
  rw [hl]
  have HAT := hide (fun (k : Nat) (c : UInt8) (h : l[k]? = some c) => run_at (P := Tryd.prog) 9 s k c Tryd.underlying9 (by rw [hl]; exact h))
  have HLN := hide hln
  clear hl hln
  go_enter Tryd.func81, Tryd.ntmps81
  by_cases h1 : n < 1
  · have d1 : (n : Int) < 1 := by omega
    go_wp2
    go_ret
    exact ⟨retI (numF_not (by have := HLN.out; simp [numeral]; omega)).symm, rfl⟩
  have d1 : decide ((n : Int) < 1) = false := by simp; omega
  by_cases h4 : 4 < n
  · have d4 : (4 : Int) < (n : Int) := by omega
    go_wp2
    go_ret
    exact ⟨retI (numF_not (by have := HLN.out; simp [numeral]; omega)).symm, rfl⟩
  have d4 : decide ((4 : Int) < (n : Int)) = false := by simp; omega
  obtain ⟨c0, hc0⟩ : ∃ c, l[0]? = some c := ⟨_, List.getElem?_eq_getElem (by have := HLN.out; omega)⟩
  have x0 : ∀ w', (Instr.index 9 (.string s) (.int .i64 0)).run Tryd.prog w' = .ok (.int .u8 (c0.toNat : Int)) w' := HAT.out 0 c0 hc0
  have hd0 : l.head? = some c0 := by rw [← hc0]; cases l <;> rfl
  by_cases hz : c0.toNat = 48 ∧ 1 < n
  · have e0 : ((c0.toNat : Int) == 48) = true := by simp; omega
    have d5 : (1 : Int) < (n : Int) := by omega
    go_wp2
    go_ret
    refine ⟨retI (numF_not ?_).symm, rfl⟩
    have := HLN.out
    have : c0 = 48 := UInt8.toNat_inj.1 hz.1
    subst this
    simp [numeral, hd0]
    omega
  have hcase : ((c0.toNat : Int) == 48) = false ∨ (((c0.toNat : Int) = 48) ∧ decide ((1 : Int) < (n : Int)) = false) := by
    by_cases h : c0.toNat = 48
    · right; exact ⟨by omega, by simp; omega⟩
    · left; simp; omega
  have hhead : (decide (l.head? = some 48) && decide (1 < l.length)) = false := by
    have hln := HLN.out
    rw [hd0, hln]
    by_cases h : 1 < n
    · have : c0 ≠ 48 := fun e => hz ⟨by rw [e]; rfl, h⟩
      simp [this]
    · simp [h]
  have HH := hide hhead
  clear hz hhead hd0
  rcases hcase with e0 | ⟨e0, e1⟩
  all_goals
    go_wp2_with fail
    go_loopw [5, 6, 27] (fun nv x i wr => ∃ k : Nat, k ≤ n ∧ i = .int .i64 (k : Int) ∧ nv = .int .i64 (digs (l.take k) : Int) ∧ Hid (∀ c ∈ l.take k, isDig c = true) ∧ wr = w) (fun _ _ i _ => n - (intOf i).toNat)
    case atStart => exact ⟨0, Nat.zero_le _, rfl, rfl, hide (by simp), rfl⟩
    case round =>
      obtain ⟨k, hk, rfl, rfl, HD, rfl⟩ := hrel
      by_cases hlt : k < n
      case pos =>
        obtain ⟨c, hc⟩ : ∃ c, l[k]? = some c := ⟨_, List.getElem?_eq_getElem (by have := HLN.out; omega)⟩
        have x1 : ∀ w', (Instr.index 9 (.string s) (.int .i64 (k : Int))).run Tryd.prog w' = .ok (.int .u8 (c.toNat : Int)) w' := HAT.out k c hc
        by_cases hd : isDig c = true
        case neg =>
          have hno : numeral l = false := by
            have : l.all isDig = false := by
              rw [Bool.eq_false_iff]
              intro h
              exact hd (List.all_eq_true.1 h c (List.mem_of_getElem? hc))
            simp [numeral, this]
          have hor : c.toNat < 48 ∨ 57 < c.toNat := by
            simp only [isDig, Bool.and_eq_true, decide_eq_true_eq] at hd
            omega
          clear hd hc
          rcases hor with h | h
          · have q1 : (c.toNat : Int) < 48 := by omega
            go_wp2
            go_ret
            exact ⟨retI (numF_not hno).symm, rfl⟩
          · have q1 : decide ((c.toNat : Int) < 48) = false := by simp; omega
            have q2 : (57 : Int) < (c.toNat : Int) := by omega
            go_wp2
            go_ret
            exact ⟨retI (numF_not hno).symm, rfl⟩
        case pos =>
          have hb := hd
          simp only [isDig, Bool.and_eq_true, decide_eq_true_eq] at hb
          have q1 : decide ((c.toNat : Int) < 48) = false := by simp; omega
          have q2 : decide ((57 : Int) < (c.toNat : Int)) = false := by simp; omega
          have hHD : Hid (∀ x ∈ l.take (k + 1), isDig x = true) := hide (fun x hx => by
            rw [take_at hc, List.mem_append] at hx
            rcases hx with hx | hx
            · exact HD.out x hx
            · rw [List.mem_singleton.1 hx]; exact hd)
          have hle : digs (l.take k) ≤ 999 := by
            have h1 := digs_lt _ HD.out
            have h2 : (l.take k).length ≤ 3 := by simp; omega
            have h3 : 10 ^ (l.take k).length ≤ 10 ^ 3 := Nat.pow_le_pow_right (by decide) h2
            omega
          have hsn := hide (show digs (l.take (k + 1)) = digs (l.take k) * 10 + (c.toNat - 48) by rw [take_at hc, digs_snoc])
          clear HD hd hc
          obtain ⟨D, hD⟩ : ∃ D, digs (l.take k) = D := ⟨_, rfl⟩
          rw [hD] at hle hsn ⊢
          clear hD
          obtain ⟨c1, hc1⟩ : ∃ x, c.toNat = x + 48 := ⟨c.toNat - 48, by omega⟩
          go_wp2_with fail
          go_roundw
          case rel =>
            exact ⟨k + 1, by omega, by go_num, congrArg (Value.int .i64) (by have := hsn.out; omega), hHD, trivial⟩
          case measure => simp [intOf]; omega
      case neg =>
        obtain rfl : k = n := by omega
        have hall : l.take k = l := List.take_of_length_le (by have := HLN.out; omega)
        rw [hall] at HD ⊢
        have hnum : numeral l = true := by
          have h1 := HLN.out
          have h2 := HH.out
          have h3 : l.all isDig = true := List.all_eq_true.2 HD.out
          simp only [numeral, h2, h3]
          simp; omega
        have hF := hide (show numF l most = if (digs l : Int) < most then (digs l : Int) else -1 by simp [numF, hnum])
        obtain ⟨D, hD⟩ : ∃ D, digs l = D := ⟨_, rfl⟩
        rw [hD] at hF ⊢
        clear HD hall hnum hD
        by_cases hm : (D : Int) < most
        · have q1 : decide (most ≤ (D : Int)) = false := by simp; omega
          go_wp2
          go_ret
          exact ⟨retI (by rw [hF.out, if_pos hm]), rfl⟩
        · have q1 : most ≤ (D : Int) := by omega
          go_wp2
          go_ret
          exact ⟨retI (by rw [hF.out, if_neg (by omega)]), rfl⟩

theorem inD_walk (a b c : Int) (w : World) : Calls Tryd.prog 40 #[.int .i64 a, .int .i64 b, .int .i64 c] w fun e w' => e = .returned (.bool (decide (b ≤ a) && decide (a ≤ c))) ∧ w = w' := by
  go_enter Tryd.func40, Tryd.ntmps40
  by_cases h : b ≤ a
  · by_cases h2 : a ≤ c
    · go_wp2
      go_ret
      exact ⟨by simp [h, h2], rfl⟩
    · have h3 : decide (a ≤ c) = false := by simp; omega
      go_wp2
      go_ret
      exact ⟨by simp [h, h2], rfl⟩
  · have h3 : decide (b ≤ a) = false := by simp; omega
    go_wp2
    go_ret
    exact ⟨by simp [h], rfl⟩

theorem digits_walk (s : ByteArray) (most : Int) (w : World) (hmost : most ≤ 1000000) :
    Calls Tryd.prog 47 #[.string s, .int .i64 most] w fun e w' => e = .returned (.int .i64 (numF s.data.toList (most + 1))) ∧ w = w' := by
  obtain ⟨l, hl⟩ : ∃ l, s.data.toList = l := ⟨_, rfl⟩
  obtain ⟨n, hn⟩ : ∃ n, s.size = n := ⟨_, rfl⟩
  have hln : l.length = n := by rw [← hl, ← hn]; exact sz_list s
  rw [hl]
  have HAT := hide (fun (k : Nat) (c : UInt8) (h : l[k]? = some c) => run_at (P := Tryd.prog) 9 s k c Tryd.underlying9 (by rw [hl]; exact h))
  have HLN := hide hln
  clear hl hln
  go_enter Tryd.func47, Tryd.ntmps47
  go_wp2_with fail
  go_loopw [5, 6] (fun nv i wr => ∃ k : Nat, k ≤ n ∧ k ≤ 5 ∧ i = .int .i64 (k : Int) ∧ nv = .int .i64 (digs (l.take k) : Int) ∧ Hid (∀ c ∈ l.take k, isDig c = true) ∧ wr = w) (fun _ i _ => 5 - (intOf i).toNat)
  case atStart => exact ⟨0, Nat.zero_le _, Nat.zero_le _, rfl, rfl, hide (by simp), rfl⟩
  case round =>
    obtain ⟨k, hk, hk5, rfl, rfl, HD, rfl⟩ := hrel
    by_cases hlt : k < n ∧ k < 5
    case pos =>
      obtain ⟨hlt, hlt5⟩ := hlt
      obtain ⟨c, hc⟩ : ∃ c, l[k]? = some c := ⟨_, List.getElem?_eq_getElem (by have := HLN.out; omega)⟩
      have x1 : ∀ w', (Instr.index 9 (.string s) (.int .i64 (k : Int))).run Tryd.prog w' = .ok (.int .u8 (c.toNat : Int)) w' := HAT.out k c hc
      by_cases hd : isDig c = true
      case neg =>
        have hno : numeral l = false := by
          have : l.all isDig = false := by
            rw [Bool.eq_false_iff]
            intro h
            exact hd (List.all_eq_true.1 h c (List.mem_of_getElem? hc))
          simp [numeral, this]
        have hor : c.toNat < 48 ∨ 57 < c.toNat := by
          simp only [isDig, Bool.and_eq_true, decide_eq_true_eq] at hd
          omega
        clear hd hc
        rcases hor with h | h
        · have q1 : (c.toNat : Int) < 48 := by omega
          go_wp2
          go_ret
          exact ⟨retI (numF_not hno).symm, rfl⟩
        · have q1 : decide ((c.toNat : Int) < 48) = false := by simp; omega
          have q2 : (57 : Int) < (c.toNat : Int) := by omega
          go_wp2
          go_ret
          exact ⟨retI (numF_not hno).symm, rfl⟩
      case pos =>
        have hb := hd
        simp only [isDig, Bool.and_eq_true, decide_eq_true_eq] at hb
        have q1 : decide ((c.toNat : Int) < 48) = false := by simp; omega
        have q2 : decide ((57 : Int) < (c.toNat : Int)) = false := by simp; omega
        have hHD : Hid (∀ x ∈ l.take (k + 1), isDig x = true) := hide (fun x hx => by
          rw [take_at hc, List.mem_append] at hx
          rcases hx with hx | hx
          · exact HD.out x hx
          · rw [List.mem_singleton.1 hx]; exact hd)
        have hle : digs (l.take k) ≤ 9999 := by
          have h1 := digs_lt _ HD.out
          have h2 : (l.take k).length ≤ 4 := by simp; omega
          have h3 : 10 ^ (l.take k).length ≤ 10 ^ 4 := Nat.pow_le_pow_right (by decide) h2
          omega
        have hsn := hide (show digs (l.take (k + 1)) = digs (l.take k) * 10 + (c.toNat - 48) by rw [take_at hc, digs_snoc])
        clear HD hd hc
        obtain ⟨D, hD⟩ : ∃ D, digs (l.take k) = D := ⟨_, rfl⟩
        rw [hD] at hle hsn ⊢
        clear hD
        obtain ⟨c1, hc1⟩ : ∃ x, c.toNat = x + 48 := ⟨c.toNat - 48, by omega⟩
        go_wp2_with fail
        go_roundw
        case rel =>
          refine ⟨k + 1, by omega, by omega, by go_num, congrArg (Value.int .i64) (by have := hsn.out; omega), hHD, trivial⟩
        case measure => simp [intOf]; omega
    case neg =>
      have hcut : decide (k < n) = false ∨ (k = 5 ∧ 5 < n) := by
        by_cases h : k < n
        · right; exact ⟨by omega, by omega⟩
        · left; simp; omega
      have HNUM := hide (show numF l (most + 1) = if (1 ≤ n ∧ n ≤ 4) ∧ ¬ (1 < n ∧ l.head? = some 48) ∧ (digs (l.take k) : Int) ≤ most then (digs (l.take k) : Int) else -1 from by
        have hln := HLN.out
        by_cases h4 : 1 ≤ n ∧ n ≤ 4
        · have hkn : k = n := by omega
          have hall : l.take k = l := List.take_of_length_le (by omega)
          have h3 : l.all isDig = true := List.all_eq_true.2 (by rw [← hall]; exact HD.out)
          rw [hall]
          by_cases hh : 1 < n ∧ l.head? = some 48
          · rw [numF_not (by simp [numeral, hh.2]; omega), if_neg (fun h => h.2.1 hh)]
          · have hnum : numeral l = true := by
              have : (decide (l.head? = some 48) && decide (1 < l.length)) = false := by
                rw [Bool.eq_false_iff]; intro h
                simp only [Bool.and_eq_true, decide_eq_true_eq] at h
                exact hh ⟨by omega, h.1⟩
              show (decide (1 ≤ l.length) && decide (l.length ≤ 4) && l.all isDig && !(decide (l.head? = some 48) && decide (1 < l.length))) = true
              rw [this, h3, decide_eq_true (show 1 ≤ l.length by omega), decide_eq_true (show l.length ≤ 4 by omega)]
              rfl
            by_cases hm : (digs l : Int) ≤ most
            · rw [if_pos (show (1 ≤ n ∧ n ≤ 4) ∧ ¬ (1 < n ∧ l.head? = some 48) ∧ (digs l : Int) ≤ most from ⟨by omega, hh, hm⟩), numF, if_pos (show numeral l = true ∧ (digs l : Int) < most + 1 from ⟨hnum, by omega⟩)]
            · rw [if_neg (fun h => hm h.2.2), numF, if_neg (show ¬ (numeral l = true ∧ (digs l : Int) < most + 1) from fun h => hm (by omega))]
        · rw [numF_not (show numeral l = false by simp [numeral]; omega), if_neg (show ¬ ((1 ≤ n ∧ n ≤ 4) ∧ ¬ (1 < n ∧ l.head? = some 48) ∧ (digs (l.take k) : Int) ≤ most) from fun h => h4 h.1)])
      clear hlt HD
      obtain ⟨D, hD⟩ : ∃ D, digs (l.take k) = D := ⟨_, rfl⟩
      rw [hD] at HNUM ⊢
      clear hD
      by_cases hin : 1 ≤ n ∧ n ≤ 4
      case neg =>
        have HI := hide (HNUM.out.trans (if_neg (fun h => hin h.1)))
        have HC := hide (fun w => show Calls Tryd.prog 40 #[.int .i64 (n : Int), .int .i64 1, .int .i64 4] w fun e w' => e = .returned (.bool false) ∧ w = w' from
          (inD_walk (n : Int) 1 4 w).mono fun e w' ⟨h1, h2⟩ => ⟨by rw [h1]; congr; simp; omega, h2⟩)
        clear hin HNUM
        rcases hcut with q | ⟨rfl, q⟩
        all_goals
          go_wp2_with (go_at_call 40; refine (HC.out _).mono ?_; rintro e w1 ⟨rfl, rfl⟩)
          go_ret
          exact ⟨retI HI.out.symm, rfl⟩
      case pos =>
        have HC := hide (fun w => show Calls Tryd.prog 40 #[.int .i64 (n : Int), .int .i64 1, .int .i64 4] w fun e w' => e = .returned (.bool true) ∧ w = w' from
          (inD_walk (n : Int) 1 4 w).mono fun e w' ⟨h1, h2⟩ => ⟨by rw [h1]; congr; simp; omega, h2⟩)
        obtain ⟨c0, hc0⟩ : ∃ c, l[0]? = some c := ⟨_, List.getElem?_eq_getElem (by have := HLN.out; omega)⟩
        have x0 : ∀ w', (Instr.index 9 (.string s) (.int .i64 0)).run Tryd.prog w' = .ok (.int .u8 (c0.toNat : Int)) w' := HAT.out 0 c0 hc0
        have hd0 : l.head? = some c0 := by rw [← hc0]; cases l <;> rfl
        by_cases hm : (D : Int) ≤ most
        case neg =>
          have q2 : most < (D : Int) := by omega
          have HI := hide (HNUM.out.trans (if_neg (fun h => hm h.2.2)))
          clear hm HNUM
          have q := hcut.resolve_right (fun h => by omega)
          all_goals
            go_wp2_with (go_at_call 40; refine (HC.out _).mono ?_; rintro e w1 ⟨rfl, rfl⟩)
            go_ret
            exact ⟨retI HI.out.symm, rfl⟩
        case pos =>
          have q2 : decide (most < (D : Int)) = false := by simp; omega
          by_cases h1 : 1 < n
          case neg =>
            have q3 : decide ((1 : Int) < (n : Int)) = false := by simp; omega
            have HI := hide (HNUM.out.trans (if_pos ⟨hin, fun h => h1 h.1, hm⟩))
            clear HNUM
            have q := hcut.resolve_right (fun h => by omega)
            all_goals
              go_wp2_with (go_at_call 40; refine (HC.out _).mono ?_; rintro e w1 ⟨rfl, rfl⟩)
              go_ret
              exact ⟨retI HI.out.symm, rfl⟩
          case pos =>
            have q3 : (1 : Int) < (n : Int) := by omega
            by_cases hz : c0.toNat = 48
            · have q4 : (c0.toNat : Int) = 48 := by omega
              have hc48 : c0 = 48 := UInt8.toNat_inj.1 hz
              have HI := hide (HNUM.out.trans (if_neg (show ¬ ((1 ≤ n ∧ n ≤ 4) ∧ ¬ (1 < n ∧ l.head? = some 48) ∧ (D : Int) ≤ most) from fun h => h.2.1 ⟨h1, by rw [hd0, hc48]⟩)))
              clear hc48 hc0 hd0 hz HNUM
              have q := hcut.resolve_right (fun h => by omega)
              all_goals
                go_wp2_with (go_at_call 40; refine (HC.out _).mono ?_; rintro e w1 ⟨rfl, rfl⟩)
                go_ret
                exact ⟨retI HI.out.symm, rfl⟩
            · have q4 : ((c0.toNat : Int) == 48) = false := by simp; omega
              have HI := hide (HNUM.out.trans (if_pos (show ((1 ≤ n ∧ n ≤ 4) ∧ ¬ (1 < n ∧ l.head? = some 48) ∧ (D : Int) ≤ most) from ⟨hin, fun h => hz (by rw [hd0] at h; rw [Option.some.inj h.2]; rfl), hm⟩)))
              clear hc0 hd0 hz HNUM
              have q := hcut.resolve_right (fun h => by omega)
              all_goals
                go_wp2_with (go_at_call 40; refine (HC.out _).mono ?_; rintro e w1 ⟨rfl, rfl⟩)
                go_ret
                exact ⟨retI HI.out.symm, rfl⟩
end Go.Proofs.YtohbafigjpoijaaDoor
