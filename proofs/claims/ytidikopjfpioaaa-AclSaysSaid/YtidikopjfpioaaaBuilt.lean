/- match.built -/
import Derived.Test.YtidikopjfpioaaaBddOps
import Derived.Test.YtidikopjfpioaaaBits
import Derived.WalkLawsBesides
set_option linter.unusedVariables false
set_option linter.unusedSimpArgs false
namespace Go.Proofs.Ytidikopjfpioaaa
open Go.RowKit Go.Maps Bdd

/-- What a call leaves that makes functions and tells one of them, or that there is no room; P holds of what is new. -/
def BP (w : World) (B g nb kb ib : Nat) (A : St) (F : Bdd.Fn) (P : Bdd.Fn → Prop) (e : Ending) (W' : World) : Prop :=
  ∃ (nb2 cap2 : Nat) (A2 : St) (K2 T2 : Tri → Option Value), Ext A A2 ∧ A2.full = false ∧ (∀ j, A.len ≤ j → j < A2.len → P (den A2.ns j)) ∧ ArenaAt W' B g nb2 kb ib cap2 A2 K2 T2 ∧ (nb2 = nb ∨ w.heap.size ≤ nb2) ∧ Frm (Fp g nb kb ib) w W' ∧
    ((∃ r : Nat, e = .returned (.tuple #[.int .i64 (r : Int), .int .i64 0]) ∧ r < A2.ns.length ∧ den A2.ns r = F) ∨ (e = .returned (.tuple #[.int .i64 0, .int .i64 6]) ∧ A2.len = A2.most))

theorem OpP.bp {w : World} {B g nb kb ib : Nat} {A : St} {F : Bdd.Fn} {k : Nat} {e : Ending} {W' : World} (h : OpP w B g nb kb ib A F k e W') (hA : A.full = false) {P : Bdd.Fn → Prop} (hP : ∀ G, Cof F G → P G) : BP w B g nb kb ib A F P e W' := by
  obtain ⟨r, nb2, cap2, A2, K2, T2, hr, h1, h2, ha, hn, hf⟩ := h
  refine ⟨nb2, cap2, doneSt A2, K2, T2, ⟨hr.ext.vars, hr.ext.most, hr.ext.ns, fun h => (by rw [hA] at h; cases h), ha.inv⟩, rfl, fun j h3 h4 => hP _ (hr.new j h3 h4), ha, hn, hf, ?_⟩
  cases hfull : A2.full
  · exact .inl ⟨r, h2 hfull, hr.lt, hr.eq hfull⟩
  · exact .inr ⟨h1 hfull, hr.ext.inv.full hfull⟩

/-- The function of a part's numbers, from variable v on, d variables left. -/
def bitF (set : Nat) : Nat → Nat → Nat → Bdd.Fn
  | 0, _, n => fun _ => set.testBit n
  | d + 1, v, n => iteF (fun x => x v) (bitF set d (v + 1) (n * 2 + 1)) (bitF set d (v + 1) (n * 2))

theorem bitF_indep (set : Nat) : ∀ (d v n : Nat) (x y : Asg), (∀ u, v ≤ u → x u = y u) → bitF set d v n x = bitF set d v n y := by
  intro d
  induction d with
  | zero => intro v n x y _; rfl
  | succ d ih =>
    intro v n x y h
    simp only [bitF, iteF, h v (Nat.le_refl _), ih (v + 1) _ x y (fun u hu => h u (by omega))]

theorem bitF_upd (set d v n : Nat) (b : Bool) : (fun x => bitF set (d + 1) v n (upd x v b)) = bitF set d (v + 1) (if b then n * 2 + 1 else n * 2) := by
  funext x
  have e : ∀ m, bitF set d (v + 1) m (upd x v b) = bitF set d (v + 1) m x := fun m => bitF_indep set d (v + 1) m _ _ (fun u hu => by
    have : u ≠ v := by omega
    simp [upd, this])
  simp only [bitF, iteF, e]
  cases b <;> simp [upd]

theorem bitF_cof (set d v n : Nat) (b : Bool) : Cof (bitF set (d + 1) v n) (bitF set d (v + 1) (if b then n * 2 + 1 else n * 2)) := by
  rw [← bitF_upd set d v n b]
  exact Cof.upd (fun x y h => bitF_indep set (d + 1) v n x y h) b

theorem bit_val (set n : Nat) (hs : set < 65536) : wrap64 (Go.bits BinOp.and IntKind.u16 ((set : Int) / 2 ^ n) 1) = ((if set.testBit n then 1 else 0 : Nat) : Int) := by
  rw [div_pow_cast]
  have h := u16_and (set / 2 ^ n) 1 (Nat.lt_of_le_of_lt (Nat.div_le_self _ _) hs) (by omega)
  have e1 : ((1 : Nat) : Int) = 1 := rfl
  rw [e1] at h
  rw [h]
  have := testBit_div set n
  rw [Nat.and_one_is_mod] at this ⊢
  rcases Nat.mod_two_eq_zero_or_one (set / 2 ^ n) with h0 | h0
  · rw [h0] at this ⊢
    rw [← this]; decide +kernel
  · rw [h0] at this ⊢
    rw [← this]; decide +kernel

set_option maxRecDepth 100000 in
set_option maxHeartbeats 8000000 in
theorem built_walk (set bits first : Nat) (hs : set < 65536) (hbits : bits ≤ 4) (hfirst : first ≤ 14) (P : Bdd.Fn → Prop) (hV : ∀ u G, Cof (fun x : Asg => x u) G → P G) (d : Nat) :
    ∀ (w : World) (B g nb kb ib cap : Nat) (A : St) (K T : Tri → Option Value) (h : ArenaAt w B g nb kb ib cap A K T) (i n : Nat) (hA : A.full = false) (hi : i + d = bits) (hv : first + bits ≤ A.vars) (hn : (n + 1) * 2 ^ d ≤ 16) (hP : ∀ G, Cof (bitF set d (first + i) n) G → P G),
    Calls Try.prog 132 #[.agg #[.int .u16 set, .int .i64 bits, .int .i64 first], .pointer (some ⟨g, 0, none⟩), .int .i64 i, .int .i64 n] w (BP w B g nb kb ib A (bitF set d (first + i) n) P) := by
  induction d with
  | zero =>
    intro w B g nb kb ib cap A K T h i n hA hi hv hn hP
    have hb0 : RowKit.Below w.heap.size w (w.alloc (.cells #[.int .u16 set, .int .i64 bits, .int .i64 first] 196)) := (RowKit.Below.refl _ _).alloc (Nat.le_refl _) _
    have HF : Hid (BP w B g nb kb ib A (bitF set 0 (first + i) n) P (.returned (.tuple #[.int .i64 (wrap64 (Go.bits BinOp.and IntKind.u16 ((set : Int) / 2 ^ n) 1)), .int .i64 0])) (w.alloc (.cells #[.int .u16 set, .int .i64 bits, .int .i64 first] 196))) := hide
      ⟨nb, cap, A, K, T, Ext.refl h.inv, hA, fun j h1 h2 => by omega, h.below hb0, .inl rfl, Frm.of_below hb0, .inl ⟨if set.testBit n then 1 else 0, by rw [bit_val set n hs], (by have := h.inv.ok.two; split <;> omega), (by
        funext x
        simp only [bitF]
        cases set.testBit n
        · simp [den_zero]
        · simp [den_one])⟩⟩
    have hn' : n < 16 := by omega
    have hib : i = bits := by omega
    subst hib
    clear h hb0 hP
    go_enter Try.func132, Try.ntmps132
    go_wp2
    go_ret2
    exact HF.out
  | succ d ih =>
    intro w B g nb kb ib cap A K T h i n hA hi hv hn hP
    have IH := hide ih
    clear ih
    have hb0 : RowKit.Below w.heap.size w (w.alloc (.cells #[.int .u16 set, .int .i64 bits, .int .i64 first] 196)) := (RowKit.Below.refl _ _).alloc (Nat.le_refl _) _
    have HS0 : Hid (Stg w B g nb kb ib #[.int .u16 set, .int .i64 bits, .int .i64 first] 196 (w.alloc (.cells #[.int .u16 set, .int .i64 bits, .int .i64 first] 196)) nb cap A K T) := hide
      ⟨h.below hb0, Frm.of_below hb0, heap_alloc_new w _, .inl rfl⟩
    have H := hide h
    have hpow : 1 ≤ 2 ^ d := Nat.one_le_two_pow
    rw [Nat.pow_succ] at hn
    have hlo : (n * 2 + 1) * 2 ^ d ≤ 16 := by
      have : (n * 2 + 1) * 2 ^ d ≤ (n + 1) * (2 ^ d * 2) := by
        rw [Nat.mul_comm (2 ^ d) 2, ← Nat.mul_assoc]; exact Nat.mul_le_mul_right _ (by omega)
      omega
    have hhi : (n * 2 + 1 + 1) * 2 ^ d ≤ 16 := by
      have : (n * 2 + 1 + 1) * 2 ^ d = (n + 1) * (2 ^ d * 2) := by
        rw [Nat.mul_comm (2 ^ d) 2, ← Nat.mul_assoc]; congr 1; omega
      omega
    have hn16 : n < 16 := by
      have : (n * 2 + 1) * 1 ≤ (n * 2 + 1) * 2 ^ d := Nat.mul_le_mul_left _ hpow
      omega
    have hib : i < bits := by omega
    have hne : ((i : Int) == (bits : Int)) = false := by simp; omega
    have HP0 := hide (fun G hG => hP G ((bitF_cof set d (first + i) n false).trans hG))
    have HP1 := hide (fun G hG => hP G ((bitF_cof set d (first + i) n true).trans hG))
    have HPP := hide hP
    have HFS := hide (And.intro hA (And.intro hlo (And.intro hhi (And.intro (show i + 1 + d = bits by omega) hv))))
    have hc1 : ((i + 1 : Nat) : Int) = (i : Int) + 1 := by omega
    have hc2 : ((n * 2 : Nat) : Int) = (n : Int) * 2 := by omega
    have hc3 : ((n * 2 + 1 : Nat) : Int) = (n : Int) * 2 + 1 := by omega
    have hc4 : ((first + i : Nat) : Int) = (first : Int) + (i : Int) := by omega
    have IH0 := hide (fun w1 nb1 cap1 A1 K1 T1 (h1 : ArenaAt w1 B g nb1 kb ib cap1 A1 K1 T1) (hA1 : A1.full = false) (hv1 : first + bits ≤ A1.vars) => hc1 ▸ hc2 ▸ IH.out w1 B g nb1 kb ib cap1 A1 K1 T1 h1 (i + 1) (n * 2) hA1 HFS.out.2.2.2.1 hv1 HFS.out.2.1 HP0.out)
    have IH1 := hide (fun w1 nb1 cap1 A1 K1 T1 (h1 : ArenaAt w1 B g nb1 kb ib cap1 A1 K1 T1) (hA1 : A1.full = false) (hv1 : first + bits ≤ A1.vars) => hc1 ▸ hc3 ▸ IH.out w1 B g nb1 kb ib cap1 A1 K1 T1 h1 (i + 1) (n * 2 + 1) hA1 HFS.out.2.2.2.1 hv1 HFS.out.2.2.1 HP1.out)
    have HC4 := hide hc4
    clear h hb0 hP hn hlo hhi hpow IH hA hv hi hc1 hc2 hc3 hc4
    go_enter Try.func132, Try.ntmps132
    go_wp2_with fail
    refine (IH0.out _ _ _ _ _ _ HS0.out.ar HFS.out.1 HFS.out.2.2.2.2).mono ?_
    rintro e wa ⟨nb1, cap1, A1, K1, T1, hx1, hf1, hp1, ha1, hn1, hm1, hres⟩
    have HS1 := hide (HS0.out.step H.out ha1 hn1 hm1)
    have HX1 := hide (And.intro hx1 (And.intro hf1 hp1))
    have x0 : wa.cell? ⟨w.heap.size, 0, none⟩ = some (.int .u16 set) := by rw [cell_of_row _ _ _ _ _ _ HS1.out.bx]; rfl
    have x1 : wa.cell? ⟨w.heap.size, 1, none⟩ = some (.int .i64 bits) := by rw [cell_of_row _ _ _ _ _ _ HS1.out.bx]; rfl
    have x2 : wa.cell? ⟨w.heap.size, 2, none⟩ = some (.int .i64 first) := by rw [cell_of_row _ _ _ _ _ _ HS1.out.bx]; rfl
    clear hx1 hf1 hp1 ha1 hn1 hm1 HS0
    rcases hres with ⟨lo, rfl, hr1, hd1⟩ | ⟨rfl, hfull⟩
    case inr =>
      have HF : Hid (BP w B g nb kb ib A (bitF set (d + 1) (first + i) n) P (.returned (.tuple #[.int .i64 0, .int .i64 6])) wa) := hide
        ⟨nb1, cap1, A1, K1, T1, HX1.out.1, HX1.out.2.1, HX1.out.2.2, HS1.out.ar, HS1.out.nbc.imp id (fun h => by omega), HS1.out.fm, .inr ⟨rfl, hfull⟩⟩
      clear hfull x0 x1 x2
      go_wp2
      go_ret2
      exact HF.out
    have HR1 := hide (And.intro hr1 hd1)
    clear hr1 hd1
    go_wp2_with fail
    refine (IH1.out _ _ _ _ _ _ HS1.out.ar HX1.out.2.1 (by rw [HX1.out.1.vars]; exact HFS.out.2.2.2.2)).mono ?_
    rintro e wb ⟨nb2, cap2, A2, K2, T2, hx2, hf2, hp2, ha2, hn2, hm2, hres⟩
    have HS2 := hide (HS1.out.step H.out ha2 hn2 hm2)
    have HX2 := hide (show Ext A A2 ∧ A2.full = false ∧ (∀ j, A.len ≤ j → j < A2.len → P (den A2.ns j)) ∧ lo < A2.ns.length ∧ den A2.ns lo = bitF set d (first + (i + 1)) (n * 2) from
      ⟨HX1.out.1.trans hx2, hf2, fun j h1 h2 => (by
        rcases Nat.lt_or_ge j A1.len with hl | hl
        · rw [hx2.den HX1.out.1.inv hl]; exact HX1.out.2.2 j h1 hl
        · exact hp2 j hl h2), Nat.lt_of_lt_of_le HR1.out.1 hx2.len, (hx2.den HX1.out.1.inv HR1.out.1).trans HR1.out.2⟩)
    clear x0 x1 x2
    have x0 : wb.cell? ⟨w.heap.size, 0, none⟩ = some (.int .u16 set) := by rw [cell_of_row _ _ _ _ _ _ HS2.out.bx]; rfl
    have x1 : wb.cell? ⟨w.heap.size, 1, none⟩ = some (.int .i64 bits) := by rw [cell_of_row _ _ _ _ _ _ HS2.out.bx]; rfl
    have x2 : wb.cell? ⟨w.heap.size, 2, none⟩ = some (.int .i64 first) := by rw [cell_of_row _ _ _ _ _ _ HS2.out.bx]; rfl
    clear hx2 hf2 hp2 ha2 hn2 hm2 HS1 HX1 HR1
    rcases hres with ⟨hi, rfl, hr2, hd2⟩ | ⟨rfl, hfull⟩
    case inr =>
      have HF : Hid (BP w B g nb kb ib A (bitF set (d + 1) (first + i) n) P (.returned (.tuple #[.int .i64 0, .int .i64 6])) wb) := hide
        ⟨nb2, cap2, A2, K2, T2, HX2.out.1, HX2.out.2.1, HX2.out.2.2.1, HS2.out.ar, HS2.out.nbc.imp id (fun h => by omega), HS2.out.fm, .inr ⟨rfl, hfull⟩⟩
      clear hfull x0 x1 x2
      go_wp2
      go_ret2
      exact HF.out
    have HR2 := hide (And.intro hr2 hd2)
    clear hr2 hd2
    go_wp2_with fail
    have hvar := (opVar_walk HS2.out.ar (first + i) (by rw [HX2.out.1.vars]; have := HFS.out.2.2.2.2; omega))
    rw [HC4.out] at hvar
    refine hvar.mono ?_
    clear hvar x0 x1 x2
    rintro e wc hop
    obtain ⟨nb3, cap3, A3, K3, T3, hx3, hf3, hp3, ha3, hn3, hm3, hres⟩ := hop.bp HX2.out.2.1 (hV _)
    have HS3 := hide (HS2.out.step H.out ha3 hn3 hm3)
    have HX3 := hide (show Ext A A3 ∧ A3.full = false ∧ (∀ j, A.len ≤ j → j < A3.len → P (den A3.ns j)) ∧ (lo < A3.ns.length ∧ den A3.ns lo = bitF set d (first + (i + 1)) (n * 2)) ∧ hi < A3.ns.length ∧ den A3.ns hi = bitF set d (first + (i + 1)) (n * 2 + 1) from
      ⟨HX2.out.1.trans hx3, hf3, fun j h1 h2 => (by
        rcases Nat.lt_or_ge j A2.len with hl | hl
        · rw [hx3.den HX2.out.1.inv hl]; exact HX2.out.2.2.1 j h1 hl
        · exact hp3 j hl h2), ⟨Nat.lt_of_lt_of_le HX2.out.2.2.2.1 hx3.len, (hx3.den HX2.out.1.inv HX2.out.2.2.2.1).trans HX2.out.2.2.2.2⟩, Nat.lt_of_lt_of_le HR2.out.1 hx3.len, (hx3.den HX2.out.1.inv HR2.out.1).trans HR2.out.2⟩)
    clear hx3 hf3 hp3 ha3 hn3 hm3 HS2 HX2 HR2 hop
    rcases hres with ⟨v, rfl, hr3, hd3⟩ | ⟨rfl, hfull⟩
    case inr =>
      have HF : Hid (BP w B g nb kb ib A (bitF set (d + 1) (first + i) n) P (.returned (.tuple #[.int .i64 0, .int .i64 6])) wc) := hide
        ⟨nb3, cap3, A3, K3, T3, HX3.out.1, HX3.out.2.1, HX3.out.2.2.1, HS3.out.ar, HS3.out.nbc.imp id (fun h => by omega), HS3.out.fm, .inr ⟨rfl, hfull⟩⟩
      clear hfull
      go_wp2
      go_ret2
      exact HF.out
    have HR3 := hide (And.intro hr3 hd3)
    clear hr3 hd3
    go_wp2_with fail
    refine (opIte_walk HS3.out.ar v hi lo HR3.out.1 HX3.out.2.2.2.2.1 HX3.out.2.2.2.1.1).mono ?_
    rintro e wd hop
    rw [HR3.out.2, HX3.out.2.2.2.2.2, HX3.out.2.2.2.1.2] at hop
    have hFe : iteF (fun x => x (first + i)) (bitF set d (first + (i + 1)) (n * 2 + 1)) (bitF set d (first + (i + 1)) (n * 2)) = bitF set (d + 1) (first + i) n := rfl
    rw [hFe] at hop
    obtain ⟨nb4, cap4, A4, K4, T4, hx4, hf4, hp4, ha4, hn4, hm4, hres⟩ := hop.bp HX3.out.2.1 HPP.out
    have HS4 := hide (HS3.out.step H.out ha4 hn4 hm4)
    have HX4 := hide (show Ext A A4 ∧ A4.full = false ∧ (∀ j, A.len ≤ j → j < A4.len → P (den A4.ns j)) from
      ⟨HX3.out.1.trans hx4, hf4, fun j h1 h2 => (by
        rcases Nat.lt_or_ge j A3.len with hl | hl
        · rw [hx4.den HX3.out.1.inv hl]; exact HX3.out.2.2.1 j h1 hl
        · exact hp4 j hl h2)⟩)
    have HF : Hid (BP w B g nb kb ib A (bitF set (d + 1) (first + i) n) P e wd) := hide
      ⟨nb4, cap4, A4, K4, T4, HX4.out.1, HX4.out.2.1, HX4.out.2.2, HS4.out.ar, HS4.out.nbc.imp id (fun h => by omega), HS4.out.fm, hres⟩
    clear hx4 hf4 hp4 ha4 hn4 hm4 hop hFe
    rcases hres with ⟨r, rfl, _, _⟩ | ⟨rfl, _⟩
    · go_wp2
      go_ret2
      exact HF.out
    · go_wp2
      go_ret2
      exact HF.out
end Go.Proofs.Ytidikopjfpioaaa
