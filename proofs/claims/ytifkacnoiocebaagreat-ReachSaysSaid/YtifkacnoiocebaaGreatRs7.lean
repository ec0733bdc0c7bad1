/- A part of the proof: G6, As, AsRow, RegE. -/
import Derived.Test.YtifkacnoiocebaaGreatRs5
import Derived.Test.YtifkacnoiocebaaGreatRs6
import Derived.Deep.Upon
import Derived.Lib.SliceRun
import Derived.Laws.IdiomCopy
set_option linter.unusedVariables false
set_option linter.unusedSimpArgs false
set_option maxRecDepth 100000
set_option maxHeartbeats 8000000
namespace Go.Proofs.YtifkacnoiocebaaGreat
open Bdd Go.Maps Go.RowKit
def ruleL (r : RuleV) : List PartV := partL r.m.src r.m.dst r.m.sport r.m.dport
def aclF : List RuleV → Bdd.Fn
  | [] => fun _ => false
  | r :: l => iteF (outs (ruleL r)) (fun _ => r.permit) (aclF l)
theorem aclF_drop {l : List RuleV} {k : Nat} {r : RuleV} (h : l[k]? = some r) : aclF (l.drop k) = iteF (outs (ruleL r)) (fun _ => r.permit) (aclF (l.drop (k + 1))) := by
  obtain ⟨hk, e⟩ := List.getElem?_eq_some_iff.1 h
  rw [List.drop_eq_getElem_cons hk, e]; rfl
theorem aclCheck_walk (A : Option Addr) (n c : Nat) (W : World) : Calls Tryz.prog 82 #[.slice A n c] W fun e W' => e = .returned (.int .i64 (if 8 < n then 2 else 0)) ∧ W = W' := by
  by_cases h : 8 < n
  · have h8 : decide ((8 : Int) < (n : Int)) = true := by simp; omega
    rw [if_pos h]
    go_enter Tryz.func82, Tryz.ntmps82
    go_wp2
    go_ret
    exact ⟨rfl, rfl⟩
  · have h8 : decide ((8 : Int) < (n : Int)) = false := by simp; omega
    rw [if_neg h]
    go_enter Tryz.func82, Tryz.ntmps82
    go_wp2
    go_ret
    exact ⟨rfl, rfl⟩
theorem aclBuild_gen {w : World} {B g nb kb ib cap : Nat} {A : St} {K T : Tri → Option Value} (h : ArenaAt w B g nb kb ib cap A K T) (hA : A.full = false) (hv : 14 ≤ A.vars) (l : List RuleV) (a : Option Addr) (n c : Nat) (hn : n ≤ 8)
    (hlen : l.length = n) (hl : ∀ w', Frm (Fp g nb kb ib) w w' → RulesAt w' w'.heap.size a n l) (P : Bdd.Fn → Prop) (hR : ∀ r ∈ l, ∀ G, NewB (ruleL r) G → P G) (hS : ∀ k G, Cof (aclF (l.drop k)) G → P G) :
    Calls Tryz.prog 90 #[.pointer (some ⟨g, 0, none⟩), .slice a n c] w (BP w B g nb kb ib A (aclF l) P) := by
  have H := hide h
  have HV := hide hv
  have HL := hide hl
  have HR := hide hR
  have HS := hide hS
  have HB0 := hide (BS.refl h hA P)
  have HZ0 := hide (IsF.zero h.inv)
  have hn8 : ¬ 8 < n := by omega
  clear h hA hv hl hR hS
  go_enter Tryz.func90, Tryz.ntmps90
  go_wp2_with fail
  refine (aclCheck_walk _ _ _ _).mono ?_
  rintro e w1 ⟨rfl, rfl⟩
  rw [if_neg hn8]
  go_wp2
  go_loopw [7, 8] (fun u i wr => ∃ (k r nb2 cap2 : Nat) (A2 : St) (K2 T2 : Tri → Option Value), k ≤ n ∧ i = .int .i64 ((k : Int) - 1) ∧ u = .int .i64 r ∧ Hid (BS w B g nb kb ib A P wr nb2 cap2 A2 K2 T2) ∧ Hid (IsF A2 r (aclF (l.drop k)))) (fun _ i _ => (intOf i + 1).toNat)
  case atStart => exact ⟨n, 0, nb, cap, A, K, T, Nat.le_refl _, rfl, rfl, HB0, hide (by rw [List.drop_of_length_le (by omega)]; exact HZ0.out)⟩
  case round =>
    clear HB0 HZ0
    obtain ⟨k, r, nb2, cap2, A2, K2, T2, hk, rfl, rfl, HP, HF⟩ := hrel
    by_cases hlt : 0 < k
    · obtain ⟨j, rfl⟩ : ∃ j, k = j + 1 := ⟨k - 1, by omega⟩
      obtain ⟨x, hx⟩ : ∃ x, l[j]? = some x := ⟨_, List.getElem?_eq_getElem (by omega)⟩
      have hra := HL.out wr HP.out.fm
      obtain ⟨b, o, rfl, hbB, _⟩ := hra.2.2 (by omega)
      obtain ⟨q0, q1, q2, q3, q4⟩ := (hra.get hx).2
      have HX := hide hx
      obtain ⟨hs, hd, hp, hq⟩ := hra.2.1 x (List.mem_of_getElem? hx)
      have HE := hide (aclF_drop hx)
      have HBW := hide ((build_walk HP.out.ar HP.out.nf (by rw [HP.out.ext.vars]; exact HV.out) x.m.src x.m.dst x.m.sport x.m.dport hs hd hp hq))
      have HPX := hide (HR.out x (List.mem_of_getElem? hx))
      clear hx hs hd hp hq hra
      obtain ⟨xp, xs, xd, xsp, xdp⟩ := x
      have ej : ((j + 1 : Nat) : Int) - 1 = (j : Int) := by omega
      rw [ej]
      clear ej
      go_wp2_with fail
      refine HBW.out.mono ?_
      rintro e wb hbp
      obtain ⟨nb3, cap3, A3, K3, T3, hst, hx3, hres⟩ := HP.out.step H.out (hbp.mono HPX.out)
      have HP3 := hide hst
      have HF3 := hide (HF.out.ext HP.out.inv hx3)
      clear hbp hst hx3 HBW HP HF HPX
      have hc0 := ((HL.out wb HP3.out.fm).get HX.out).2.1
      clear q0 q1 q2 q3 q4
      rcases hres with ⟨f, rfl, hisf⟩ | ⟨rfl, hfull⟩
      case inr =>
        have HFF := hide (HP3.out.out (F := aclF l) (.inr ⟨rfl, hfull⟩))
        clear hfull
        go_wp2
        go_ret2
        exact HFF.out
      have HI := hide hisf
      clear hisf
      cases xp
      · have HC : Hid (Calls Tryz.prog 122 #[.pointer (some ⟨g, 0, none⟩), .int .i64 f, .int .i64 0, .int .i64 r] wb (BP wb B g nb3 kb ib A3 (iteF (outs (ruleL ⟨false, xs, xd, xsp, xdp⟩)) (fun _ => false) (aclF (l.drop (j + 1)))) P)) := hide (opIte_bp HP3.out.ar HP3.out.nf HI.out (IsF.zero HP3.out.inv) HF3.out (fun G hG => HS.out j G (HE.out.symm ▸ hG)))
        go_wp2_with fail
        refine HC.out.mono ?_
        rintro e wc hbp
        obtain ⟨nb4, cap4, A4, K4, T4, hst, hx4, hres⟩ := HP3.out.step H.out hbp
        have HP4 := hide hst
        clear hbp hst hx4 HC HP3 HF3 HI hc0
        rcases hres with ⟨q, rfl, hisf⟩ | ⟨rfl, hfull⟩
        case inr =>
          have HFF := hide (HP4.out.out (F := aclF l) (.inr ⟨rfl, hfull⟩))
          clear hfull
          go_wp2
          go_ret2
          exact HFF.out
        have HI4 := hide hisf
        clear hisf
        go_wp2
        go_roundw
        case rel => exact ⟨j, q, nb4, cap4, A4, K4, T4, by omega, rfl, rfl, HP4, hide (HE.out.symm ▸ HI4.out)⟩
        case measure => simp [intOf]
      · have HC : Hid (Calls Tryz.prog 122 #[.pointer (some ⟨g, 0, none⟩), .int .i64 f, .int .i64 1, .int .i64 r] wb (BP wb B g nb3 kb ib A3 (iteF (outs (ruleL ⟨true, xs, xd, xsp, xdp⟩)) (fun _ => true) (aclF (l.drop (j + 1)))) P)) := hide (opIte_bp HP3.out.ar HP3.out.nf HI.out (IsF.one HP3.out.inv) HF3.out (fun G hG => HS.out j G (HE.out.symm ▸ hG)))
        go_wp2_with fail
        refine HC.out.mono ?_
        rintro e wc hbp
        obtain ⟨nb4, cap4, A4, K4, T4, hst, hx4, hres⟩ := HP3.out.step H.out hbp
        have HP4 := hide hst
        clear hbp hst hx4 HC HP3 HF3 HI hc0
        rcases hres with ⟨q, rfl, hisf⟩ | ⟨rfl, hfull⟩
        case inr =>
          have HFF := hide (HP4.out.out (F := aclF l) (.inr ⟨rfl, hfull⟩))
          clear hfull
          go_wp2
          go_ret2
          exact HFF.out
        have HI4 := hide hisf
        clear hisf
        go_wp2
        go_roundw
        case rel => exact ⟨j, q, nb4, cap4, A4, K4, T4, by omega, rfl, rfl, HP4, hide (HE.out.symm ▸ HI4.out)⟩
        case measure => simp [intOf]
    · have hk0 : k = 0 := by omega
      subst hk0
      have HFF := hide (HP.out.out (F := aclF l) (.inl ⟨r, rfl, HF.out⟩))
      go_wp2
      go_ret2
      exact HFF.out
theorem aclBuild_walk {w : World} {B g nb kb ib cap : Nat} {A : St} {K T : Tri → Option Value} (h : ArenaAt w B g nb kb ib cap A K T) (hA : A.full = false) (hv : 14 ≤ A.vars) (l : List RuleV) (a : Option Addr) (n c : Nat) (hn : n ≤ 8)
    (hl : RulesAt w B a n l) (P : Bdd.Fn → Prop) (hR : ∀ r ∈ l, ∀ G, NewB (ruleL r) G → P G) (hS : ∀ k G, Cof (aclF (l.drop k)) G → P G) :
    Calls Tryz.prog 90 #[.pointer (some ⟨g, 0, none⟩), .slice a n c] w (BP w B g nb kb ib A (aclF l) P) :=
  aclBuild_gen h hA hv l a n c hn hl.1 (fun w' hf => by
    have hb := h.frmBelow hf
    have hs := hf.size
    obtain ⟨l1, _, _, _, _⟩ := h.lts
    exact hl.below hb (by have := h.lo.1; omega)) P hR hS
theorem inB_pk (m : M4) (c : Nat) (hm : m.ok) (hc : c < 16384) : inB m (pk c) = hasAllB m.src m.dst m.sport m.dport (c / 1024) (c / 64 % 16) (c / 8 % 8) (c % 8) := by
  have e : ∀ (s k : Nat), k < 16 → hasB s (k : Int) = s.testBit k := fun s k hk => by
    have h : (k : Int) < 16 := by omega
    simp [hasB, h]
  simp only [inB, pk, hasAllB]
  rw [e _ _ (by omega), e _ _ (by omega), e _ _ (by omega), e _ _ (by omega)]
theorem aclF_lets (l : List RuleV) (hl : ∀ r ∈ l, r.ok) (c : Nat) (hc : c < 16384) : aclF l (asgOf c) = letsB l (pk c) := by
  induction l with
  | nil => rfl
  | cons r l ih =>
    have h1 := ih (fun x hx => hl x (by simp [hx]))
    have h2 : outs (ruleL r) (asgOf c) = inB r.m (pk c) := by rw [ruleL, outs_has _ _ _ _ c hc, inB_pk r.m c (hl r (by simp)) hc]
    simp only [aclF, iteF, h2, h1, letsB, List.find?_cons]
    cases inB r.m (pk c) <;> rfl
theorem within_walk (n m : Int) (W : World) (B : Bool) (h : (decide (0 ≤ n) && decide (n < m)) = B) : Calls Tryz.prog 73 #[.int .i64 n, .int .i64 m] W fun e W' => e = .returned (.bool B) ∧ W = W' := by
  cases h1 : decide (0 ≤ n)
  · have e1 : ¬ 0 ≤ n := by simpa using h1
    have HF := hide (show false = B by rw [← h, h1]; rfl)
    clear h
    go_enter Tryz.func73, Tryz.ntmps73
    go_wp2
    go_ret
    exact ⟨ret_bool HF.out, rfl⟩
  · have HF := hide (show decide (n < m) = B by rw [← h, h1]; rfl)
    clear h
    go_enter Tryz.func73, Tryz.ntmps73
    go_wp2
    go_ret
    exact ⟨ret_bool HF.out, rfl⟩
theorem new_most_bad (w : World) (vars most : Int) (hb : most < 2 ∨ 40000 < most) :
    Calls Tryz.prog 23 #[.int .i64 14, .int .i64 most] w fun e W' => e = .returned (.tuple #[.pointer none, .int .i64 1]) ∧ RowKit.Below w.heap.size w W' := by
  have hmm := @run_makeMap Tryz.prog
  rcases hb with h | h
  all_goals
    go_enter Tryz.func23, Tryz.ntmps23
    go_wp2
    go_ret2
    exact ⟨rfl, RowKit.Below.refl _ _⟩
theorem own_same {w w' : World} {base e s n : Nat} {v : Value} {xs : List Value} (h : w.ownsRow base e s v n xs) (hb : ∀ q, v.ownBlock = some q → w'.heap[q]? = w.heap[q]?) : w'.ownsRow base e s v n xs := by
  obtain ⟨h1, h2⟩ := h
  refine ⟨h1, ?_⟩
  rcases h2 with h2 | ⟨g', cap', cur, hv, hb', hh, r⟩
  · exact .inl h2
  · subst hv
    exact .inr ⟨_, _, cur, rfl, hb', (hb g' rfl).trans hh, r⟩
theorem Tryz.infoInt : (Tryz.prog.info? 3).map (fun i => (i.zero, i.size, i.bytes)) = some (some (.int .i64 0), 1, 8) := by kernel_rfl
theorem index_walk (l : List Int) (b o n c : Nat) (x : Int) (W : World) (hn : n ≤ 9223372036854775807) (hl : IntsAt W W.heap.size (some ⟨b, o, none⟩) n l) (h0 : 0 < n) :
    Calls Tryz.prog 19 #[.slice (some ⟨b, o, none⟩) n c, .int .i64 x] W fun e W' => e = .returned (.int .i64 (idxF (fun y => x == y) l)) ∧ RowKit.Below W.heap.size W W' := by
  have HL := hide hl
  clear hl
  go_enter Tryz.func19, Tryz.ntmps19
  go_wp2
  go_loopw [8] (fun i wr => ∃ k : Nat, k ≤ n ∧ i = .int .i64 k ∧ RowKit.Below W.heap.size W wr ∧ Hid (∀ j y, j < k → l[j]? = some y → (x == y) = false)) (fun i _ => n - (intOf i).toNat)
  case atStart => exact ⟨0, Nat.zero_le _, rfl, RowKit.Below.refl _ _, hide (fun j r h => absurd h (by omega))⟩
  case round =>
    obtain ⟨k, hk, rfl, hb, HN⟩ := hrel
    have HB := hide hb
    by_cases hlt : k < n
    · obtain ⟨y, hy⟩ : ∃ r, l[k]? = some r := ⟨_, List.getElem?_eq_getElem (by have := HL.out.1; omega)⟩
      obtain ⟨b', o', e, hbB, hg⟩ := HL.out.2.2 (by omega)
      cases e
      have q0 := (hb.cell (p := ⟨b, o + k, none⟩) hbB).trans (hg k y hy)
      have HY := hide hy
      clear hb hg hy
      cases hxy : (x == y)
      · go_wp2
        go_roundw
        case rel => exact ⟨k + 1, by omega, by go_num, HB.out, hide (fun j z hj hz => by
          rcases (by omega : j < k ∨ j = k) with h | rfl
          · exact HN.out j z h hz
          · have e := HY.out; rw [e] at hz; cases hz; exact hxy)⟩
        case measure => simp [intOf]; omega
      · have HF := hide (idxF_found (p := fun y => x == y) HY.out hxy HN.out)
        go_wp2
        go_ret
        exact ⟨ret_i64 HF.out.symm, HB.out⟩
    · have HF := hide (idxF_none (p := fun y => x == y) (l := l) (fun j r hj hr => HN.out j r (by have := HL.out.1; omega) hr))
      go_wp2
      go_ret
      exact ⟨ret_i64 HF.out.symm, HB.out⟩
theorem contains_yes (l : List Int) (A : Option Addr) (n c : Nat) (x : Int) (W : World) (hn : n ≤ 9223372036854775807) (hl : IntsAt W W.heap.size A n l) (hx : x ∈ l) :
    Calls Tryz.prog 46 #[.slice A n c, .int .i64 x] W fun e W' => e = .returned (.bool true) ∧ RowKit.Below W.heap.size W W' := by
  have h0 : 0 < n := by have := List.length_pos_of_mem hx; have := hl.1; omega
  obtain ⟨b, o, rfl, _, _⟩ := hl.2.2 h0
  have HC := hide (index_walk l b o n c x W hn hl h0)
  obtain ⟨k, hk⟩ : ∃ k : Nat, idxF (fun y => x == y) l = k := by
    rcases idxF_cases (fun y => x == y) l with ⟨k, r, hk, _⟩ | ⟨_, hno⟩
    · exact ⟨k, hk⟩
    · have := hno x hx; simp at this
  rw [hk] at HC
  clear hl hx hk
  go_enter Tryz.func46, Tryz.ntmps46
  go_wp2_with fail
  refine HC.out.mono ?_
  rintro e w1 ⟨rfl, hb⟩
  have HB := hide hb
  clear hb
  go_wp2
  go_ret
  exact ⟨rfl, HB.out⟩
end Go.Proofs.YtifkacnoiocebaaGreat
namespace Go.Proofs.YtifkacnoiocebaaGreat
open Go.RowKit
theorem own_below {w w' : World} {base e s n : Nat} {v : Value} {xs : List Value} (h : w.ownsRow base e s v n xs) (hb : RowKit.Below w.heap.size w w') : w'.ownsRow base e s v n xs :=
  own_same h (fun q hq => hb.block q (h.lt q hq).2)
theorem grow_new {B : Nat} {w w' : World} {row : Option Nat} (hb : RowKit.Below B w w') (hB : B ≤ w.heap.size) {w'' : World} (hg : w'.grownBy w'' row) (hr : ∀ k, row = some k → B ≤ k) : RowKit.Below B w w'' :=
  hb.grown hg (by have := hb.size; omega) hr
open Bdd Go.Maps
def codeN (x : Asg) : Nat → Nat
  | 0 => 0
  | n + 1 => codeN x n * 2 + (x n).toNat
theorem codeN_lt (x : Asg) : ∀ n, codeN x n < 2 ^ n := by
  intro n
  induction n with
  | zero => simp [codeN]
  | succ n ih =>
    have : (x n).toNat ≤ 1 := by cases x n <;> simp
    simp only [codeN, Nat.pow_succ]
    omega
theorem codeN_bit (x : Asg) : ∀ (n u : Nat), u < n → (codeN x n).testBit (n - 1 - u) = x u := by
  intro n
  induction n with
  | zero => intro u hu; omega
  | succ n ih =>
    intro u hu
    have hb : (x n).toNat ≤ 1 := by cases x n <;> simp
    rcases Nat.lt_or_ge u n with h | h
    · have e : n + 1 - 1 - u = (n - 1 - u) + 1 := by omega
      rw [e, Nat.testBit_succ]
      have : codeN x (n + 1) / 2 = codeN x n := by simp only [codeN]; omega
      rw [this]
      exact ih u h
    · obtain rfl : u = n := by omega
      have e : u + 1 - 1 - u = 0 := by omega
      rw [e, Nat.testBit_zero, Bool.eq_iff_iff, decide_eq_true_eq]
      simp only [codeN]
      cases x u <;> simp <;> omega
theorem below_alloc2 (w : World) (o : Obj) : RowKit.Below w.heap.size w (w.alloc o) := (RowKit.Below.refl _ _).alloc (Nat.le_refl _) o
theorem fpNew {g nb kb ib nb2 s k : Nat} (hn : nb2 = nb ∨ s ≤ nb2) (hk : k < s) (h : ¬ Fp g nb kb ib k) : ¬ Fp g nb2 kb ib k := fun e => by
  rcases e with e | e | e | e
  · exact h (.inl e)
  · rcases hn with e' | e'
    · exact h (.inr (.inl (e.trans e')))
    · omega
  · exact h (.inr (.inr (.inl e)))
  · exact h (.inr (.inr (.inr e)))
structure AS (w : World) (B g : Nat) (A : St) (bl : List Nat) : Prop where
  ar : ∃ (nb kb ib cap : Nat) (K T : Tri → Option Value), ArenaAt w B g nb kb ib cap A K T ∧ ∀ j ∈ bl, B ≤ j ∧ j < w.heap.size ∧ ¬ Fp g nb kb ib j
  nf : A.full = false
structure KP (B : Nat) (bl : List Nat) (w w' : World) : Prop where
  low : RowKit.Below B w w'
  same : ∀ j ∈ bl, w'.heap[j]? = w.heap[j]?
theorem KP.refl (B : Nat) (bl : List Nat) (w : World) : KP B bl w w := ⟨RowKit.Below.refl _ _, fun _ _ => rfl⟩
theorem KP.trans {B : Nat} {bl : List Nat} {a b c : World} (h : KP B bl a b) (k : KP B bl b c) : KP B bl a c := ⟨h.low.trans k.low, fun j hj => (k.same j hj).trans (h.same j hj)⟩
theorem KP.mono {B : Nat} {bl bl' : List Nat} {a b : World} (h : KP B bl a b) (hs : ∀ j ∈ bl', j ∈ bl) : KP B bl' a b := ⟨h.low, fun j hj => h.same j (hs j hj)⟩
section
variable {w w' : World} {B g : Nat} {A : St} {bl : List Nat}
theorem AS.inv (h : AS w B g A bl) : Inv A := by
  obtain ⟨nb, kb, ib, cap, K, T, ha, _⟩ := h.ar
  exact ha.inv
theorem AS.hB (h : AS w B g A bl) : B < w.heap.size := by
  obtain ⟨nb, kb, ib, cap, K, T, ha, _⟩ := h.ar
  obtain ⟨l1, l2, l3, l4, l5⟩ := ha.lts
  omega
theorem AS.lt (h : AS w B g A bl) : ∀ j ∈ bl, B ≤ j ∧ j < w.heap.size := by
  obtain ⟨nb, kb, ib, cap, K, T, ha, hb⟩ := h.ar
  exact fun j hj => ⟨(hb j hj).1, (hb j hj).2.1⟩
theorem AS.mono {bl' : List Nat} (h : AS w B g A bl) (hs : ∀ j ∈ bl', j ∈ bl) : AS w B g A bl' := by
  obtain ⟨nb, kb, ib, cap, K, T, ha, hb⟩ := h.ar
  exact ⟨⟨nb, kb, ib, cap, K, T, ha, fun j hj => hb j (hs j hj)⟩, h.nf⟩
theorem AS.below (h : AS w B g A bl) (hb : RowKit.Below w.heap.size w w') : AS w' B g A bl := by
  obtain ⟨nb, kb, ib, cap, K, T, ha, hf⟩ := h.ar
  exact ⟨⟨nb, kb, ib, cap, K, T, ha.below hb, fun j hj => ⟨(hf j hj).1, Nat.lt_of_lt_of_le (hf j hj).2.1 hb.size, (hf j hj).2.2⟩⟩, h.nf⟩
theorem AS.kp (h : AS w B g A bl) (hb : RowKit.Below w.heap.size w w') : KP B bl w w' := ⟨hb.mono (Nat.le_of_lt h.hB), fun j hj => hb.block j (h.lt j hj).2⟩
theorem AS.turned (h : AS w B g A bl) (hs : w.heap.size ≤ w'.heap.size) (hc : ∀ i, i < w.heap.size → i ∉ bl → w'.heap[i]? = w.heap[i]?) : AS w' B g A bl := by
  obtain ⟨nb, kb, ib, cap, K, T, ha, hf⟩ := h.ar
  obtain ⟨l1, l2, l3, l4, l5⟩ := ha.lts
  have hk : ∀ i, i < w.heap.size → Fp g nb kb ib i → w'.heap[i]? = w.heap[i]? := fun i hi hF => hc i hi (fun hm => (hf i hm).2.2 hF)
  exact ⟨⟨nb, kb, ib, cap, K, T, ha.keep (hk g l1 (.inl rfl)) (hk nb l2 (.inr (.inl rfl))) (hk kb l3 (.inr (.inr (.inl rfl)))) (hk ib l4 (.inr (.inr (.inr rfl)))), fun j hj => ⟨(hf j hj).1, Nat.lt_of_lt_of_le (hf j hj).2.1 hs, (hf j hj).2.2⟩⟩, h.nf⟩
theorem AS.add (h : AS w B g A bl) (hs : w.heap.size ≤ w'.heap.size) (hc : ∀ i, i < w.heap.size → i ∉ bl → w'.heap[i]? = w.heap[i]?) {j : Nat} (h1 : w.heap.size ≤ j) (h2 : j < w'.heap.size) : AS w' B g A (j :: bl) := by
  have hB := h.hB
  obtain ⟨⟨nb, kb, ib, cap, K, T, ha, hf⟩, hnf⟩ := h
  obtain ⟨l1, l2, l3, l4, l5⟩ := ha.lts
  have hk : ∀ i, i < w.heap.size → Fp g nb kb ib i → w'.heap[i]? = w.heap[i]? := fun i hi hF => hc i hi (fun hm => (hf i hm).2.2 hF)
  refine ⟨⟨nb, kb, ib, cap, K, T, ha.keep (hk g l1 (.inl rfl)) (hk nb l2 (.inr (.inl rfl))) (hk kb l3 (.inr (.inr (.inl rfl)))) (hk ib l4 (.inr (.inr (.inr rfl)))), fun i hi => ?_⟩, hnf⟩
  rcases List.mem_cons.1 hi with rfl | hi
  · exact ⟨by omega, h2, fun e => by rcases e with e | e | e | e <;> omega⟩
  · exact ⟨(hf i hi).1, Nat.lt_of_lt_of_le (hf i hi).2.1 hs, (hf i hi).2.2⟩
theorem AS.alloc (h : AS w B g A bl) (o : Obj) : AS (w.alloc o) B g A (w.heap.size :: bl) :=
  h.add (by simp) (fun i hi _ => (MapKept.heap_alloc w o).2 i hi) (Nat.le_refl _) (by simp)
theorem AS.grown (h : AS w B g A bl) {row : Option Nat} (hg : w.grownBy w' row) (hr : ∀ j, row = some j → j ∈ bl) : AS w' B g A bl :=
  h.turned hg.size (fun i hi hn => hg.block i hi (fun e => hn (hr i e.symm)))
theorem AS.grownNew (h : AS w B g A bl) {row : Option Nat} (hg : w.grownBy w' row) (hr : ∀ j, row = some j → j ∈ bl) {j : Nat} (h1 : w.heap.size ≤ j) (h2 : j < w'.heap.size) : AS w' B g A (j :: bl) :=
  h.add hg.size (fun i hi hn => hg.block i hi (fun e => hn (hr i e.symm))) h1 h2
theorem KP.of_grown {row : Option Nat} (hg : w.grownBy w' row) (hB : B ≤ w.heap.size) (hl : ∀ j ∈ bl, j < w.heap.size) (hr : ∀ j, row = some j → B ≤ j ∧ j ∉ bl) : KP B bl w w' :=
  ⟨⟨hg.os, hg.tape, hg.output, hg.size, fun i hi => hg.block i (by omega) (fun e => by have := (hr i e.symm).1; omega)⟩, fun j hj => hg.block j (hl j hj) (fun e => (hr j e.symm).2 hj)⟩
theorem as_count (h : AS w B g A bl) {f : Nat} {F : Bdd.Fn} (hf : IsF A f F) : Calls Tryz.prog 42 #[.pointer (some ⟨g, 0, none⟩), .int .i64 f] w fun e w' => e = .returned (.tuple #[.int .i64 (cntF A.vars A.vars F : Nat), .int .i64 0]) ∧ RowKit.Below w.heap.size w w' := by
  obtain ⟨nb, kb, ib, cap, K, T, har, hb⟩ := h.ar
  have := opCount_walk har f hf.1
  rw [hf.2] at this
  exact this
theorem as_new (w : World) (vars most : Nat) (hv : 1 ≤ vars) (hv2 : vars ≤ 16) (hm : 2 ≤ most) (hm2 : most ≤ 40000) :
    Calls Tryz.prog 23 #[.int .i64 vars, .int .i64 most] w fun e w' => ∃ g, e = .returned (.tuple #[.pointer (some ⟨g, 0, none⟩), .int .i64 0]) ∧ AS w' w.heap.size g (newSt vars most) [] ∧ RowKit.Below w.heap.size w w' :=
  (new_walk w vars most hv hv2 hm hm2).mono fun e w' hq => by
    obtain ⟨g, nb, kb, ib, he, ha, hb⟩ := hq
    exact ⟨g, he, ⟨⟨nb, kb, ib, _, _, _, ha, fun j hj => by cases hj⟩, rfl⟩, hb⟩
end
def Bx (w : World) (N : Nat) (vs : Array Value) (t : TypeId) : Prop := w.heap[N]? = some (.cells vs t (0, 0))
theorem Bx.new (w : World) (vs : Array Value) (t : TypeId) : Bx (w.alloc (.cells vs t)) w.heap.size vs t := heap_alloc_new w _
theorem Bx.same {w w' : World} {N : Nat} {vs : Array Value} {t : TypeId} (h : Bx w N vs t) (hs : w'.heap[N]? = w.heap[N]?) : Bx w' N vs t := hs.trans h
theorem Bx.lt {w : World} {N : Nat} {vs : Array Value} {t : TypeId} (h : Bx w N vs t) : N < w.heap.size := (Array.getElem?_eq_some_iff.1 h).1
theorem Bx.below {w w' : World} {N : Nat} {vs : Array Value} {t : TypeId} (h : Bx w N vs t) (hb : RowKit.Below w.heap.size w w') : Bx w' N vs t := h.same (hb.block N h.lt)
theorem Bx.kp {w w' : World} {B N : Nat} {bl : List Nat} {vs : Array Value} {t : TypeId} (h : Bx w N vs t) (hk : KP B bl w w') (hN : N ∈ bl) : Bx w' N vs t := h.same (hk.same N hN)
theorem Bx.get {w : World} {N : Nat} {vs : Array Value} {t : TypeId} (h : Bx w N vs t) (j : Nat) (v : Value) (hv : vs[j]? = some v) : w.cell? ⟨N, j, none⟩ = some v := by
  rw [cell_of_row _ _ _ _ _ _ h]; exact hv
theorem Bx.frozen {w : World} {N : Nat} {vs : Array Value} {t : TypeId} (h : Bx w N vs t) (o : Nat) : w.frozen? ⟨N, o, none⟩ = false := by
  have h' : w.heap[N]? = some (.cells vs t (0, 0)) := h
  unfold World.frozen?
  simp only [h']
  simp
theorem Bx.set {w : World} {N : Nat} {vs : Array Value} {t : TypeId} (h : Bx w N vs t) (j : Nat) (v : Value) : Bx (w.setCell ⟨N, j, none⟩ v) N (vs.setIfInBounds j v) t := by
  have h1 : w.heap[N]? = some (.cells vs t (0, 0)) := h
  have hlt := h.lt
  have h' : w.heap[N] = .cells vs t (0, 0) := by simpa [Array.getElem?_eq_getElem hlt] using h1
  show (w.heap.modify N _)[N]? = _
  rw [Array.getElem?_eq_getElem (by simpa using hlt), Array.getElem_modify_self, h']
  rfl
theorem Bx.far {w : World} {N : Nat} {vs : Array Value} {t : TypeId} (h : Bx w N vs t) (a : Addr) (v : Value) (hn : N ≠ a.block) : Bx (w.setCell a v) N vs t := h.same (RowKit.Below.heap_setCell w a v N hn)
theorem size_setCell (w : World) (a : Addr) (v : Value) : (w.setCell a v).heap.size = w.heap.size := by simp [World.setCell]
structure RowS (wr : World) (B g : Nat) (A : St) (base : Nat) (e : TypeId) (s : Nat) (v : Value) (n : Nat) (xs : List Value) (bl : List Nat) : Prop where
  sa : AS wr B g A (v.ownBlock.toList ++ bl)
  own : wr.ownsRow base e s v n xs
  ap : ∀ q, v.ownBlock = some q → q ∉ bl
section
variable {wr w' : World} {B g base s n : Nat} {A : St} {e : TypeId} {v : Value} {xs : List Value} {bl : List Nat}
theorem RowS.append {v5 : Value} {m : Nat} {ys : List Value} (h : RowS wr B g A base e s v n xs bl) (hown : w'.ownsRow base e s v5 m ys) (hg : wr.grownBy w' v.ownBlock) (hat : v5.ownBlock = v.ownBlock ∨ v5.ownBlock = some wr.heap.size) :
    RowS w' B g A base e s v5 m ys bl ∧ KP B bl wr w' := by
  have hB := h.sa.hB
  refine ⟨⟨?_, hown, fun q hq hm => ?_⟩, ?_⟩
  · rcases hat with e1 | e1
    · rw [e1]
      exact h.sa.grown hg (fun j hj => List.mem_append_left _ (by simp [hj]))
    · rw [e1]
      refine (h.sa.grownNew hg (fun j hj => List.mem_append_left _ (by simp [hj])) (Nat.le_refl _) (hown.lt _ e1).2).mono (fun j hj => ?_)
      simp only [Option.toList_some, List.mem_append, List.mem_cons, List.not_mem_nil, or_false] at hj ⊢
      rcases hj with a | a
      · exact .inl a
      · exact .inr (.inr a)
  · rcases hat with e1 | e1
    · exact h.ap q (e1 ▸ hq) hm
    · rw [e1] at hq
      cases hq
      exact Nat.lt_irrefl _ (h.sa.lt _ (List.mem_append_right _ hm)).2
  · refine KP.of_grown hg (Nat.le_of_lt hB) (fun j hj => (h.sa.lt j (List.mem_append_right _ hj)).2) (fun j hj => ⟨?_, h.ap j hj⟩)
    exact (h.sa.lt j (List.mem_append_left _ (by simp [hj]))).1
end
end Go.Proofs.YtifkacnoiocebaaGreat
namespace Go.Proofs.YtifkacnoiocebaaGreat
structure ClosedL (md : Region.Mode) (ops : Array Oper) (listed : Array Bool) : Prop where
  size : listed.size = ops.size
  closed : ∀ j oj, ops[j]? = some oj → listed.getD j false = true → ∀ e ∈ oj.after, Region.binds md e = true → listed.getD e.on false = true
def chainOk (md : Region.Mode) (ops : Array Oper) : List Nat → Bool
  | i :: j :: r => Region.waitsFor md ops j i && chainOk md ops (j :: r)
  | _ => true
section
variable {P : Program} {ops : Array Oper} {Q : Exit → Act → World → Prop} {md : Region.Mode} {S : World → Prop} {s : Nat}
theorem ClosedL.set {i : Nat} {listed : Array Bool} (inv : ClosedL md ops listed) (hi : i ∈ Region.ready md ops listed) : ClosedL md ops (listed.setIfInBounds i true) := by
  obtain ⟨_, oi, hoi, hall⟩ := mem_ready.1 hi
  refine ⟨by simp [inv.size], fun j oj hj hl e he hb => ?_⟩
  by_cases hij : i = j
  · subst hij
    have : oj = oi := Option.some.inj (hj.symm.trans hoi)
    subst this
    exact getD_set_true (hall e he hb)
  · rw [getD_set_ne false hij] at hl
    exact getD_set_true (inv.closed j oj hj hl e he hb)
theorem chain_back {listed : Array Bool} (inv : ClosedL md ops listed) : ∀ (c : List Nat) (i s : Nat), chainOk md ops (i :: c) = true → (i :: c).getLast? = some s → listed.getD s false = true → listed.getD i false = true
  | [], i, s, _, hl, h => by simp at hl; rw [hl]; exact h
  | j :: r, i, s, hc, hl, h => by
    simp only [chainOk, Bool.and_eq_true] at hc
    have h1 := chain_back inv r j s hc.2 (by simpa using hl) h
    obtain ⟨oj, hoj, e, he, hb, hon⟩ := Region.waitsFor_spec hc.1
    have := inv.closed j oj hoj h1 e he hb
    rwa [hon] at this
theorem chain_unlisted {listed : Array Bool} (inv : ClosedL md ops listed) {c : List Nat} {i : Nat} (hc : chainOk md ops (i :: c) = true) (hl : (i :: c).getLast? = some s) (hs : s < ops.size) (hi : listed.getD i true = false) : listed.getD s true = false := by
  cases h : listed.getD s false with
  | true => have := chain_back inv c i s hc hl h; rw [getD_both hi] at this; cases this
  | false => exact getD_in (by rw [inv.size]; exact hs) h
def wpAnyE (P : Program) (md : Region.Mode) (ops : Array Oper) (Q : Exit → Act → World → Prop) (S : World → Prop) (s : Nat) : Nat → Array Bool → Act → World → Prop
  | 0, listed, a, w => Region.ready md ops listed = [] ∧ Q .normal a w
  | fuel + 1, listed, a, w =>
    (Region.ready md ops listed = [] → Q .normal a w) ∧
    ∀ i ∈ Region.ready md ops listed, wpOp P ops Q i (fun a' w' => ((listed.setIfInBounds i true).getD s true = false → S w') ∧ wpAnyE P md ops Q S s fuel (listed.setIfInBounds i true) a' w') a w
theorem wpAny_of_E : ∀ (fuel : Nat) (listed : Array Bool) (a : Act) (w : World), wpAnyE P md ops Q S s fuel listed a w → wpAny P md ops Q fuel listed a w
  | 0, _, _, _, h => h
  | fuel + 1, _, _, _, h => ⟨h.1, fun i hi => wpOp_mono (fun a' w' h' => wpAny_of_E fuel _ a' w' h'.2) (h.2 i hi)⟩
theorem wpAnyE_first {i : Nat} {oi : Oper} {v : Value} {S' : World → Prop} (hi : ops[i]? = some oi) (hsel : ∀ (j : Nat) (o : Oper) cs b, ops[j]? = some o → o.op ≠ .select cs b) (his : i ≠ s)
    (hS' : ∀ (listed : Array Bool) (w : World), ClosedL md ops listed → listed.getD i true = false → (listed.getD s true = false → S w) → S' w)
    (hQ : ∀ c a w, Q (.panic c) (a.put oi.dst v) w → Q (.panic c) a w) :
    ∀ (fuel : Nat) (listed : Array Bool) (a : Act) (w : World), ClosedL md ops listed →
      (∀ j oj, ops[j]? = some oj → j ≠ i → listed.getD j true = false → (∀ e ∈ oj.after, Region.binds md e = true → e.on ≠ i) → oi.apart ops oj = true) →
      i ∈ Region.ready md ops listed → YieldsIf P ops S' oi v a → (listed.getD s true = false → S w) →
      wpAnyE P md ops Q S s fuel (listed.setIfInBounds i true) (a.put oi.dst v) w → wpAnyE P md ops Q S s (fuel + 1) listed a w := by
  have same : ∀ (l : Array Bool), (l.setIfInBounds i true).getD s true = l.getD s true := fun l => getD_set_ne true his
  intro fuel
  induction fuel with
  | zero =>
    intro listed a w inv _ hr hy hS H
    have hun := (mem_ready.1 hr).1
    refine ⟨fun h => (by rw [h] at hr; cases hr), fun j hj => ?_⟩
    by_cases hji : j = i
    · subst hji; exact hy.wpOp hi (hS' listed w inv hun hS) ⟨fun h => hS (by rwa [same] at h), H⟩
    · have := ready_mono hj hji
      rw [H.1] at this
      cases this
  | succ fuel ih =>
    intro listed a w inv hfree hr hy hS H
    have hun := (mem_ready.1 hr).1
    refine ⟨fun h => (by rw [h] at hr; cases hr), fun j hj => ?_⟩
    by_cases hji : j = i
    · subst hji; exact hy.wpOp hi (hS' listed w inv hun hS) ⟨fun h => hS (by rwa [same] at h), H⟩
    · have h1 := H.2 j (ready_mono hj hji)
      obtain ⟨hjun, oj, hoj, hall⟩ := mem_ready.1 hj
      have hnot : ∀ e ∈ oj.after, Region.binds md e = true → e.on ≠ i := fun e he hb heq => by
        have h1 := hall e he hb
        rw [heq, getD_both hun] at h1
        cases h1
      have h2 := wpOp_putIf hoj (hfree j oj hoj hji hjun hnot) (fun cs b => hsel i oi cs b hi) (fun cs b => hsel j oj cs b hoj) hQ hy h1
      have hfree' : ∀ k ok, ops[k]? = some ok → k ≠ i → (listed.setIfInBounds j true).getD k true = false →
          (∀ e ∈ ok.after, Region.binds md e = true → e.on ≠ i) → oi.apart ops ok = true := fun k ok hk hki hun hno => by
        refine hfree k ok hk hki ?_ hno
        by_cases hjk : j = k
        · subst hjk; exact hjun
        · rw [getD_set_ne true hjk] at hun; exact hun
      refine wpOp_mono (fun a' w' h3 => ?_) h2
      have hS2 : (listed.setIfInBounds j true).getD s true = false → S w' := fun h => h3.2.1 (by rw [Array.setIfInBounds_comm _ _ (Ne.symm hji), same]; exact h)
      refine ⟨hS2, ih (listed.setIfInBounds j true) a' w' (inv.set hj) hfree' (ready_mono hr (Ne.symm hji)) h3.1 hS2 ?_⟩
      rw [Array.setIfInBounds_comm _ _ hji]
      exact h3.2.2
theorem wpAnyE_load {i : Nat} {oi : Oper} {v : Value} {fuel : Nat} {listed : Array Bool} {a : Act} {w : World} (c : List Nat) (hi0 : ops.toList[i]? = some oi) (hs : Region.noSelect ops = true) (hf : Region.free md ops listed i = true)
    (hr : (Region.ready md ops listed).contains i = true) (his : decide (i ≠ s) && decide (s < ops.size) && chainOk md ops (i :: c) && decide ((i :: c).getLast? = some s) = true) (hQ : ∀ c a w, Q (.panic c) (a.put oi.dst v) w → Q (.panic c) a w) (inv : Shut (ClosedL md ops listed)) (hy : YieldsIf P ops S oi v a) (hS : S w)
    (h : Shut (ClosedL md ops (listed.setIfInBounds i true)) → wpAnyE P md ops Q S s fuel (listed.setIfInBounds i true) (a.put oi.dst v) w) : wpAnyE P md ops Q S s (fuel + 1) listed a w := by
  have hi : ops[i]? = some oi := by simpa using hi0
  simp only [Bool.and_eq_true, decide_eq_true_eq] at his
  have hr' : i ∈ Region.ready md ops listed := by simpa using hr
  exact wpAnyE_first hi (Region.noSelect_spec hs) his.1.1.1 (fun l w inv hun hS => hS (chain_unlisted inv his.1.2 his.2 his.1.1.2 hun)) hQ fuel listed a w inv.out (Region.free_spec hi hf) hr' hy (fun _ => hS) (h (inv.out.set hr'))
theorem wpAnyE_pure {i : Nat} {oi : Oper} {v : Value} {fuel : Nat} {listed : Array Bool} {a : Act} {w : World} (hi0 : ops.toList[i]? = some oi) (hs : Region.noSelect ops = true) (hf : Region.free md ops listed i = true)
    (hr : (Region.ready md ops listed).contains i = true) (his : decide (i ≠ s) = true) (hQ : ∀ c a w, Q (.panic c) (a.put oi.dst v) w → Q (.panic c) a w) (inv : Shut (ClosedL md ops listed)) (hy : YieldsIf P ops (fun _ => True) oi v a) (hS : listed.getD s true = false → S w)
    (h : Shut (ClosedL md ops (listed.setIfInBounds i true)) → wpAnyE P md ops Q S s fuel (listed.setIfInBounds i true) (a.put oi.dst v) w) : wpAnyE P md ops Q S s (fuel + 1) listed a w := by
  have hi : ops[i]? = some oi := by simpa using hi0
  have hr' : i ∈ Region.ready md ops listed := by simpa using hr
  exact wpAnyE_first hi (Region.noSelect_spec hs) (by simpa using his) (fun _ _ _ _ _ => trivial) hQ fuel listed a w inv.out (Region.free_spec hi hf) hr' hy hS (h (inv.out.set hr'))
theorem wpAnyE_one {i : Nat} {o : Oper} {fuel : Nat} {listed : Array Bool} {a : Act} {w : World} (ho0 : ops.toList[i]? = some o) (hr : Region.ready md ops listed = [i]) (inv : Shut (ClosedL md ops listed))
    (h : ∀ K' : Act → World → Prop, Shut (∀ a w, ((listed.setIfInBounds i true).getD s true = false → S w) → (Shut (ClosedL md ops (listed.setIfInBounds i true)) → wpAnyE P md ops Q S s fuel (listed.setIfInBounds i true) a w) → K' a w) → if Region.wanted o (yielded ops a.tmps) = true then Oper.wp P o a w K' Q else K' (a.put o.dst undef) w) :
    wpAnyE P md ops Q S s (fuel + 1) listed a w := by
  have ho : ops[i]? = some o := by simpa using ho0
  have hi : i ∈ Region.ready md ops listed := by rw [hr]; simp
  refine ⟨fun h0 => (by rw [h0] at hr; cases hr), fun j hj => ?_⟩
  rw [hr] at hj
  have : j = i := by simpa using hj
  subst this
  exact wpOp_step ho (fun K hK => h K (fun a w hS hW => hK a w ⟨hS, hW (inv.out.set hi)⟩))
theorem wpAnyE_late {i : Nat} {o : Oper} {fuel : Nat} {listed : Array Bool} {a : Act} {w : World} (ho0 : ops.toList[i]? = some o) (hr : Region.ready md ops listed = [i]) (inv : Shut (ClosedL md ops listed)) (hx : (listed.setIfInBounds i true).getD s true = true)
    (h : ∀ K' : Act → World → Prop, Shut (∀ a w, (Shut (ClosedL md ops (listed.setIfInBounds i true)) → wpAnyE P md ops Q S s fuel (listed.setIfInBounds i true) a w) → K' a w) → if Region.wanted o (yielded ops a.tmps) = true then Oper.wp P o a w K' Q else K' (a.put o.dst undef) w) :
    wpAnyE P md ops Q S s (fuel + 1) listed a w := by
  have ho : ops[i]? = some o := by simpa using ho0
  have hi : i ∈ Region.ready md ops listed := by rw [hr]; simp
  refine ⟨fun h0 => (by rw [h0] at hr; cases hr), fun j hj => ?_⟩
  rw [hr] at hj
  have : j = i := by simpa using hj
  subst this
  exact wpOp_step ho (fun K hK => h K (fun a w hW => hK a w ⟨fun h => (by rw [hx] at h; cases h), hW (inv.out.set hi)⟩))
theorem wpAnyE_done {listed : Array Bool} {a : Act} {w : World} (hr : Region.ready md ops listed = []) (h : Q .normal a w) : ∀ fuel, wpAnyE P md ops Q S s fuel listed a w
  | 0 => ⟨hr, h⟩
  | _ + 1 => ⟨fun _ => h, by rw [hr]; simp⟩
theorem wp_region_E {id : Nat} {a : Act} {w : World} (S : World → Prop) (s : Nat) (hm : P.follows .mixedOrders = true) (hS : S w.drew)
    (h : S w.drew → Shut (ClosedL .any ops (Array.replicate ops.size false)) → wpAnyE P .any ops Q S s ops.size (Array.replicate ops.size false) a w.drew) : (Code.region id ops true).wp P Q a w :=
  wp_region_any hm (wpAny_of_E _ _ _ _ (h hS (show ClosedL .any ops (Array.replicate ops.size false) from ⟨by simp, fun j oj _ hl => (by rw [getD_replicate_false] at hl; cases hl)⟩)))
end
section
variable {P : Program} {ops : Array Oper} {Q : Exit → Act → World → Prop} {md : Region.Mode} {S : World → Prop} {s : Nat} {fuel : Nat} {listed l : Array Bool} {a b : Act} {w : World} {oi : Oper} {v : Value}
theorem rP (i : Nat) (hS : S w) (h : Shut (ClosedL md ops l) → wpAnyE P md ops Q S s fuel l b w)
    (hi0 : ops.toList[i]? = some oi := by rfl)
    (q0 : Region.noSelect ops = true := by kernel_rfl) (q1 : Region.free md ops listed i = true := by kernel_rfl) (q2 : (Region.ready md ops listed).contains i = true := by kernel_rfl) (q3 : decide (i ≠ s) = true := by kernel_rfl)
    (q4 : Region.wanted oi (yielded ops a.tmps) = true := by rfl)
    (hy : ∀ w, True → (execOp a.eval oi).run P w = .ok (.value v) w := by intro w _; go_simp; try with_reducible rfl)
    (hQ : ∀ c a w, Q (.panic c) (a.put oi.dst v) w → Q (.panic c) a w := by exact fun _ _ _ h => h)
    (hl : listed.setIfInBounds i true = l := by first | (simp only [nrmA, nrmB, nrmC]; exact rfl) | exact rfl)
    (hb : a.put oi.dst v = b := by first | (simp only [Act.put, nrmA, nrmB, nrmC]; exact rfl) | exact rfl) : Shut (ClosedL md ops listed) → wpAnyE P md ops Q S s (fuel + 1) listed a w :=
  fun inv => wpAnyE_pure hi0 q0 q1 q2 q3 hQ inv (.inl ⟨q4, hy⟩) (fun _ => hS) (by rw [hl, hb]; exact h)
theorem rK (i : Nat) (hS : S w) (h : Shut (ClosedL md ops l) → wpAnyE P md ops Q S s fuel l b w)
    (hi0 : ops.toList[i]? = some oi := by rfl)
    (q0 : Region.noSelect ops = true := by kernel_rfl) (q1 : Region.free md ops listed i = true := by kernel_rfl) (q2 : (Region.ready md ops listed).contains i = true := by kernel_rfl) (q3 : decide (i ≠ s) = true := by kernel_rfl)
    (q4 : Region.wanted oi (yielded ops a.tmps) = false := by rfl)
    (hQ : ∀ c a w, Q (.panic c) (a.put oi.dst undef) w → Q (.panic c) a w := by exact fun _ _ _ h => h)
    (hl : listed.setIfInBounds i true = l := by first | (simp only [nrmA, nrmB, nrmC]; exact rfl) | exact rfl)
    (hb : a.put oi.dst undef = b := by first | (simp only [Act.put, nrmA, nrmB, nrmC]; exact rfl) | exact rfl) : Shut (ClosedL md ops listed) → wpAnyE P md ops Q S s (fuel + 1) listed a w :=
  fun inv => wpAnyE_pure hi0 q0 q1 q2 q3 hQ inv (.inr ⟨q4, rfl⟩) (fun _ => hS) (by rw [hl, hb]; exact h)
theorem rL (i : Nat) (c : List Nat) (hi0 : ops.toList[i]? = some oi) (hS : S w)
    (hy : ∀ w, S w → (execOp a.eval oi).run P w = .ok (.value v) w)
    (h : Shut (ClosedL md ops l) → wpAnyE P md ops Q S s fuel l b w)
    (q0 : Region.noSelect ops = true := by kernel_rfl) (q1 : Region.free md ops listed i = true := by kernel_rfl) (q2 : (Region.ready md ops listed).contains i = true := by kernel_rfl) (q3 : decide (i ≠ s) && decide (s < ops.size) && chainOk md ops (i :: c) && decide ((i :: c).getLast? = some s) = true := by kernel_rfl)
    (q4 : Region.wanted oi (yielded ops a.tmps) = true := by rfl)
    (hQ : ∀ c a w, Q (.panic c) (a.put oi.dst v) w → Q (.panic c) a w := by exact fun _ _ _ h => h)
    (hl : listed.setIfInBounds i true = l := by first | (simp only [nrmA, nrmB, nrmC]; exact rfl) | exact rfl)
    (hb : a.put oi.dst v = b := by first | (simp only [Act.put, nrmA, nrmB, nrmC]; exact rfl) | exact rfl) : Shut (ClosedL md ops listed) → wpAnyE P md ops Q S s (fuel + 1) listed a w :=
  fun inv => wpAnyE_load c hi0 q0 q1 q2 q3 hQ inv (.inl ⟨q4, hy⟩) hS (by rw [hl, hb]; exact h)
theorem rT (i : Nat) (inv : Shut (ClosedL md ops listed))
    (h : ∀ K' : Act → World → Prop, Shut (∀ a w, (Shut (ClosedL md ops (listed.setIfInBounds i true)) → wpAnyE P md ops Q S s fuel (listed.setIfInBounds i true) a w) → K' a w) → if Region.wanted oi (yielded ops a.tmps) = true then Oper.wp P oi a w K' Q else K' (a.put oi.dst undef) w)
    (hi0 : ops.toList[i]? = some oi := by rfl) (hr : Region.ready md ops listed = [i] := by kernel_rfl) (hx : (listed.setIfInBounds i true).getD s true = true := by kernel_rfl) : wpAnyE P md ops Q S s (fuel + 1) listed a w :=
  wpAnyE_late hi0 hr inv hx h
theorem rO (i : Nat) (inv : Shut (ClosedL md ops listed))
    (h : ∀ K' : Act → World → Prop, Shut (∀ a w, ((listed.setIfInBounds i true).getD s true = false → S w) → (Shut (ClosedL md ops (listed.setIfInBounds i true)) → wpAnyE P md ops Q S s fuel (listed.setIfInBounds i true) a w) → K' a w) → if Region.wanted oi (yielded ops a.tmps) = true then Oper.wp P oi a w K' Q else K' (a.put oi.dst undef) w)
    (hi0 : ops.toList[i]? = some oi := by rfl) (hr : Region.ready md ops listed = [i] := by kernel_rfl) : wpAnyE P md ops Q S s (fuel + 1) listed a w :=
  wpAnyE_one hi0 hr inv h
theorem rD (h : Q .normal a w) (hr : Region.ready md ops listed = [] := by kernel_rfl) : wpAnyE P md ops Q S s fuel listed a w :=
  wpAnyE_done hr h fuel
end
end Go.Proofs.YtifkacnoiocebaaGreat
