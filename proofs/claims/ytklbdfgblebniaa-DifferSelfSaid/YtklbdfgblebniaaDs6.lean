/- A part of the proof: G6, As, AsRow. -/
import Derived.Test.YtklbdfgblebniaaDs5
import Derived.Deep.RegionLaw
import Derived.Deep.Upon
import Derived.Lib.SliceRun
import Derived.Laws.IdiomCopy

set_option linter.unusedVariables false
set_option linter.unusedSimpArgs false
namespace Go.Proofs.Ytklbdfgblebniaa
open Go.RowKit Go.Maps Bdd

def ruleL (r : RuleV) : List PartV := partL r.m.src r.m.dst r.m.sport r.m.dport
def aclF : List RuleV → Bdd.Fn
  | [] => fun _ => false
  | r :: l => iteF (outs (ruleL r)) (fun _ => r.permit) (aclF l)
theorem aclF_drop {l : List RuleV} {k : Nat} {r : RuleV} (h : l[k]? = some r) : aclF (l.drop k) = iteF (outs (ruleL r)) (fun _ => r.permit) (aclF (l.drop (k + 1))) := by
  obtain ⟨hk, e⟩ := List.getElem?_eq_some_iff.1 h
  rw [List.drop_eq_getElem_cons hk, e]; rfl

set_option maxRecDepth 100000 in
theorem aclCheck_walk (A : Option Addr) (n c : Nat) (W : World) : Calls Try.prog 26 #[.slice A n c] W fun e W' => e = .returned (.int .i64 (if 8 < n then 2 else 0)) ∧ W = W' := by
  by_cases h : 8 < n
  · have h8 : decide ((8 : Int) < (n : Int)) = true := by simp; omega
    rw [if_pos h]
    go_enter Try.func26, Try.ntmps26
    go_wp2
    go_ret
    exact ⟨rfl, rfl⟩
  · have h8 : decide ((8 : Int) < (n : Int)) = false := by simp; omega
    rw [if_neg h]
    go_enter Try.func26, Try.ntmps26
    go_wp2
    go_ret
    exact ⟨rfl, rfl⟩

set_option maxRecDepth 100000 in
set_option maxHeartbeats 8000000 in
theorem aclBuild_gen {w : World} {B g nb kb ib cap : Nat} {A : St} {K T : Tri → Option Value} (h : ArenaAt w B g nb kb ib cap A K T) (hA : A.full = false) (hv : 14 ≤ A.vars) (l : List RuleV) (a : Option Addr) (n c : Nat) (hn : n ≤ 8)
    (hlen : l.length = n) (hl : ∀ w', Frm (Fp g nb kb ib) w w' → RulesAt w' w'.heap.size a n l) (P : Bdd.Fn → Prop) (hR : ∀ r ∈ l, ∀ G, NewB (ruleL r) G → P G) (hS : ∀ k G, Cof (aclF (l.drop k)) G → P G) :
    Calls Try.prog 27 #[.pointer (some ⟨g, 0, none⟩), .slice a n c] w (BP w B g nb kb ib A (aclF l) P) := by
  have H := hide h
  have HV := hide hv
  have HL := hide hl
  have HR := hide hR
  have HS := hide hS
  have HB0 := hide (BS.refl h hA P)
  have HZ0 := hide (IsF.zero h.inv)
  have hn8 : ¬ 8 < n := by omega
  clear h hA hv hl hR hS
  go_enter Try.func27, Try.ntmps27
  go_wp2_with fail
  refine (aclCheck_walk _ _ _ _).mono ?_
  rintro e w1 ⟨rfl, rfl⟩
  rw [if_neg hn8]
  go_wp2
  go_loopw [7, 8] (fun u i wr => ∃ (k r nb2 cap2 : Nat) (A2 : St) (K2 T2 : Tri → Option Value), k ≤ n ∧ i = .int .i64 ((k : Int) - 1) ∧ u = .int .i64 r ∧ Hid (BS w B g nb kb ib A P wr nb2 cap2 A2 K2 T2) ∧ Hid (IsF A2 r (aclF (l.drop k)))) (fun _ i _ => (intOf i + 1).toNat)
  case atStart => exact ⟨n, 0, nb, cap, A, K, T, Nat.le_refl _, rfl, rfl, HB0, hide (by rw [List.drop_of_length_le (by omega)]; exact HZ0.out)⟩
  case round =>
    clear HB0 HZ0
    obtain ⟨k, r, nb2, cap2, A2, K2, T2, hk, rfl, rfl, HP, HF⟩ := hrel
    by_cases hlt : 0 < k
    · obtain ⟨j, rfl⟩ : ∃ j, k = j + 1 := ⟨k - 1, by omega⟩
      obtain ⟨x, hx⟩ : ∃ x, l[j]? = some x := ⟨_, List.getElem?_eq_getElem (by omega)⟩
      have hra := HL.out wr HP.out.fm
      obtain ⟨b, o, rfl, hbB, _⟩ := hra.2.2 (by omega)
      obtain ⟨q0, q1, q2, q3, q4⟩ := (hra.get hx).2
      have HX := hide hx
      obtain ⟨hs, hd, hp, hq⟩ := hra.2.1 x (List.mem_of_getElem? hx)
      have HE := hide (aclF_drop hx)
      have HBW := hide ((build_walk HP.out.ar HP.out.nf (by rw [HP.out.ext.vars]; exact HV.out) x.m.src x.m.dst x.m.sport x.m.dport hs hd hp hq))
      have HPX := hide (HR.out x (List.mem_of_getElem? hx))
      clear hx hs hd hp hq hra
      obtain ⟨xp, xs, xd, xsp, xdp⟩ := x
      have ej : ((j + 1 : Nat) : Int) - 1 = (j : Int) := by omega
      rw [ej]
      clear ej
      go_wp2_with fail
      refine HBW.out.mono ?_
      rintro e wb hbp
      obtain ⟨nb3, cap3, A3, K3, T3, hst, hx3, hres⟩ := HP.out.step H.out (hbp.mono HPX.out)
      have HP3 := hide hst
      have HF3 := hide (HF.out.ext HP.out.inv hx3)
      clear hbp hst hx3 HBW HP HF HPX
      have hc0 := ((HL.out wb HP3.out.fm).get HX.out).2.1
      clear q0 q1 q2 q3 q4
      rcases hres with ⟨f, rfl, hisf⟩ | ⟨rfl, hfull⟩
      case inr =>
        have HFF := hide (HP3.out.out (F := aclF l) (.inr ⟨rfl, hfull⟩))
        clear hfull
        go_wp2
        go_ret2
        exact HFF.out
      have HI := hide hisf
      clear hisf
      cases xp
      · have HC : Hid (Calls Try.prog 29 #[.pointer (some ⟨g, 0, none⟩), .int .i64 f, .int .i64 0, .int .i64 r] wb (BP wb B g nb3 kb ib A3 (iteF (outs (ruleL ⟨false, xs, xd, xsp, xdp⟩)) (fun _ => false) (aclF (l.drop (j + 1)))) P)) := hide (opIte_bp HP3.out.ar HP3.out.nf HI.out (IsF.zero HP3.out.inv) HF3.out (fun G hG => HS.out j G (HE.out.symm ▸ hG)))
        go_wp2_with fail
        refine HC.out.mono ?_
        rintro e wc hbp
        obtain ⟨nb4, cap4, A4, K4, T4, hst, hx4, hres⟩ := HP3.out.step H.out hbp
        have HP4 := hide hst
        clear hbp hst hx4 HC HP3 HF3 HI hc0
        rcases hres with ⟨q, rfl, hisf⟩ | ⟨rfl, hfull⟩
        case inr =>
          have HFF := hide (HP4.out.out (F := aclF l) (.inr ⟨rfl, hfull⟩))
          clear hfull
          go_wp2
          go_ret2
          exact HFF.out
        have HI4 := hide hisf
        clear hisf
        go_wp2
        go_roundw
        case rel => exact ⟨j, q, nb4, cap4, A4, K4, T4, by omega, rfl, rfl, HP4, hide (HE.out.symm ▸ HI4.out)⟩
        case measure => simp [intOf]
      · have HC : Hid (Calls Try.prog 29 #[.pointer (some ⟨g, 0, none⟩), .int .i64 f, .int .i64 1, .int .i64 r] wb (BP wb B g nb3 kb ib A3 (iteF (outs (ruleL ⟨true, xs, xd, xsp, xdp⟩)) (fun _ => true) (aclF (l.drop (j + 1)))) P)) := hide (opIte_bp HP3.out.ar HP3.out.nf HI.out (IsF.one HP3.out.inv) HF3.out (fun G hG => HS.out j G (HE.out.symm ▸ hG)))
        go_wp2_with fail
        refine HC.out.mono ?_
        rintro e wc hbp
        obtain ⟨nb4, cap4, A4, K4, T4, hst, hx4, hres⟩ := HP3.out.step H.out hbp
        have HP4 := hide hst
        clear hbp hst hx4 HC HP3 HF3 HI hc0
        rcases hres with ⟨q, rfl, hisf⟩ | ⟨rfl, hfull⟩
        case inr =>
          have HFF := hide (HP4.out.out (F := aclF l) (.inr ⟨rfl, hfull⟩))
          clear hfull
          go_wp2
          go_ret2
          exact HFF.out
        have HI4 := hide hisf
        clear hisf
        go_wp2
        go_roundw
        case rel => exact ⟨j, q, nb4, cap4, A4, K4, T4, by omega, rfl, rfl, HP4, hide (HE.out.symm ▸ HI4.out)⟩
        case measure => simp [intOf]
    · have hk0 : k = 0 := by omega
      subst hk0
      have HFF := hide (HP.out.out (F := aclF l) (.inl ⟨r, rfl, HF.out⟩))
      go_wp2
      go_ret2
      exact HFF.out

theorem aclBuild_walk {w : World} {B g nb kb ib cap : Nat} {A : St} {K T : Tri → Option Value} (h : ArenaAt w B g nb kb ib cap A K T) (hA : A.full = false) (hv : 14 ≤ A.vars) (l : List RuleV) (a : Option Addr) (n c : Nat) (hn : n ≤ 8)
    (hl : RulesAt w B a n l) (P : Bdd.Fn → Prop) (hR : ∀ r ∈ l, ∀ G, NewB (ruleL r) G → P G) (hS : ∀ k G, Cof (aclF (l.drop k)) G → P G) :
    Calls Try.prog 27 #[.pointer (some ⟨g, 0, none⟩), .slice a n c] w (BP w B g nb kb ib A (aclF l) P) :=
  aclBuild_gen h hA hv l a n c hn hl.1 (fun w' hf => by
    have hb := h.frmBelow hf
    have hs := hf.size
    obtain ⟨l1, _, _, _, _⟩ := h.lts
    exact hl.below hb (by have := h.lo.1; omega)) P hR hS
end Go.Proofs.Ytklbdfgblebniaa

set_option linter.unusedVariables false
set_option linter.unusedSimpArgs false
namespace Go.Proofs.Ytklbdfgblebniaa
open Go.RowKit Go.Maps Bdd

theorem inB_pk (m : M4) (c : Nat) (hm : m.ok) (hc : c < 16384) : inB m (pk c) = hasAllB m.src m.dst m.sport m.dport (c / 1024) (c / 64 % 16) (c / 8 % 8) (c % 8) := by
  have e : ∀ (s k : Nat), k < 16 → hasB s (k : Int) = s.testBit k := fun s k hk => by
    have h : (k : Int) < 16 := by omega
    simp [hasB, h]
  simp only [inB, pk, hasAllB]
  rw [e _ _ (by omega), e _ _ (by omega), e _ _ (by omega), e _ _ (by omega)]

theorem aclF_lets (l : List RuleV) (hl : ∀ r ∈ l, r.ok) (c : Nat) (hc : c < 16384) : aclF l (asgOf c) = letsB l (pk c) := by
  induction l with
  | nil => rfl
  | cons r l ih =>
    have h1 := ih (fun x hx => hl x (by simp [hx]))
    have h2 : outs (ruleL r) (asgOf c) = inB r.m (pk c) := by rw [ruleL, outs_has _ _ _ _ c hc, inB_pk r.m c (hl r (by simp)) hc]
    simp only [aclF, iteF, h2, h1, letsB, List.find?_cons]
    cases inB r.m (pk c) <;> rfl

theorem within_walk (n m : Int) (W : World) (B : Bool) (h : (decide (0 ≤ n) && decide (n < m)) = B) : Calls Try.prog 56 #[.int .i64 n, .int .i64 m] W fun e W' => e = .returned (.bool B) ∧ W = W' := by
  cases h1 : decide (0 ≤ n)
  · have e1 : ¬ 0 ≤ n := by simpa using h1
    have HF := hide (show false = B by rw [← h, h1]; rfl)
    clear h
    go_enter Try.func56, Try.ntmps56
    go_wp2
    go_ret
    exact ⟨ret_bool HF.out, rfl⟩
  · have HF := hide (show decide (n < m) = B by rw [← h, h1]; rfl)
    clear h
    go_enter Try.func56, Try.ntmps56
    go_wp2
    go_ret
    exact ⟨ret_bool HF.out, rfl⟩

def xorF (F G : Bdd.Fn) : Bdd.Fn := iteF F (iteF G (fun _ => false) (fun _ => true)) G
theorem xorF_at (F G : Bdd.Fn) (x : Asg) : xorF F G x = (F x != G x) := by
  simp only [xorF, iteF]; cases F x <;> cases G x <;> rfl

set_option maxRecDepth 100000 in
set_option maxHeartbeats 4000000 in
theorem new_most_bad (w : World) (vars most : Int) (hb : most < 2 ∨ 40000 < most) :
    Calls Try.prog 18 #[.int .i64 14, .int .i64 most] w fun e W' => e = .returned (.tuple #[.pointer none, .int .i64 1]) ∧ RowKit.Below w.heap.size w W' := by
  have hmm := @run_makeMap Try.prog
  rcases hb with h | h
  all_goals
    go_enter Try.func18, Try.ntmps18
    go_wp2
    go_ret2
    exact ⟨rfl, RowKit.Below.refl _ _⟩
end Go.Proofs.Ytklbdfgblebniaa

set_option linter.unusedVariables false
set_option linter.unusedSimpArgs false
namespace Go.Proofs.Ytklbdfgblebniaa
open Go.RowKit Go.Maps Bdd

end Go.Proofs.Ytklbdfgblebniaa

set_option linter.unusedVariables false
set_option linter.unusedSimpArgs false
namespace Go.Proofs.Ytklbdfgblebniaa
open Go.RowKit Go.Maps Bdd

def intCells (dl : List Nat) : List Value := dl.map fun (k : Nat) => Value.int .i64 (k : Int)
theorem own_same {w w' : World} {base e s n : Nat} {v : Value} {xs : List Value} (h : w.ownsRow base e s v n xs) (hb : ∀ q, v.ownBlock = some q → w'.heap[q]? = w.heap[q]?) : w'.ownsRow base e s v n xs := by
  obtain ⟨h1, h2⟩ := h
  refine ⟨h1, ?_⟩
  rcases h2 with h2 | ⟨g', cap', cur, hv, hb', hh, r⟩
  · exact .inl h2
  · subst hv
    exact .inr ⟨_, _, cur, rfl, hb', (hb g' rfl).trans hh, r⟩

theorem Try.infoInt : (Try.prog.info? 3).map (fun i => (i.zero, i.size, i.bytes)) = some (some (.int .i64 0), 1, 8) := by kernel_rfl

end Go.Proofs.Ytklbdfgblebniaa

set_option linter.unusedVariables false
set_option linter.unusedSimpArgs false
namespace Go.Proofs.Ytklbdfgblebniaa
open Go.RowKit Go.Maps Bdd

theorem ints_of_own {w : World} {base : Nat} {v : Value} {dl : List Nat} (h : w.ownsRow base 3 1 v dl.length (intCells dl)) (hb : ∀ x ∈ dl, x < 4611686018427387904) :
    ∃ A c, v = .slice A dl.length c ∧ dl.length ≤ c ∧ IntsAt w w.heap.size A dl.length (dl.map fun (k : Nat) => (k : Int)) := by
  rcases h.2 with ⟨rfl, h0⟩ | ⟨g, cap, cur, rfl, hg, hh, hnc, _⟩
  · have : dl = [] := List.eq_nil_of_length_eq_zero h0
    subst this
    exact ⟨none, 0, rfl, Nat.le_refl _, IntsAt.nil _ _ _⟩
  · refine ⟨_, cap, rfl, hnc, ⟨by simp, fun x hx => ?_, fun _ => ⟨g, 0, rfl, (Array.getElem?_eq_some_iff.1 hh).1, fun k x hx => ?_⟩⟩⟩
    · obtain ⟨k, hk, rfl⟩ := List.mem_map.1 hx
      have := hb k hk
      omega
    · have := h.cells (g := g) rfl k (.int .i64 x) (by
        rw [List.getElem?_map] at hx
        cases e : dl[k]? with
        | none => rw [e] at hx; cases hx
        | some y => rw [e] at hx; cases hx; simp [intCells, e])
      rw [addr_add] at this
      exact this

set_option maxRecDepth 100000 in
set_option maxHeartbeats 4000000 in
theorem index_walk (l : List Int) (b o n c : Nat) (x : Int) (W : World) (hn : n ≤ 9223372036854775807) (hl : IntsAt W W.heap.size (some ⟨b, o, none⟩) n l) (h0 : 0 < n) :
    Calls Try.prog 94 #[.slice (some ⟨b, o, none⟩) n c, .int .i64 x] W fun e W' => e = .returned (.int .i64 (idxF (fun y => x == y) l)) ∧ RowKit.Below W.heap.size W W' := by
  have HL := hide hl
  clear hl
  go_enter Try.func94, Try.ntmps94
  go_wp2
  go_loopw [8] (fun i wr => ∃ k : Nat, k ≤ n ∧ i = .int .i64 k ∧ RowKit.Below W.heap.size W wr ∧ Hid (∀ j y, j < k → l[j]? = some y → (x == y) = false)) (fun i _ => n - (intOf i).toNat)
  case atStart => exact ⟨0, Nat.zero_le _, rfl, RowKit.Below.refl _ _, hide (fun j r h => absurd h (by omega))⟩
  case round =>
    obtain ⟨k, hk, rfl, hb, HN⟩ := hrel
    have HB := hide hb
    by_cases hlt : k < n
    · obtain ⟨y, hy⟩ : ∃ r, l[k]? = some r := ⟨_, List.getElem?_eq_getElem (by have := HL.out.1; omega)⟩
      obtain ⟨b', o', e, hbB, hg⟩ := HL.out.2.2 (by omega)
      cases e
      have q0 := (hb.cell (p := ⟨b, o + k, none⟩) hbB).trans (hg k y hy)
      have HY := hide hy
      clear hb hg hy
      cases hxy : (x == y)
      · go_wp2
        go_roundw
        case rel => exact ⟨k + 1, by omega, by go_num, HB.out, hide (fun j z hj hz => by
          rcases (by omega : j < k ∨ j = k) with h | rfl
          · exact HN.out j z h hz
          · have e := HY.out; rw [e] at hz; cases hz; exact hxy)⟩
        case measure => simp [intOf]; omega
      · have HF := hide (idxF_found (p := fun y => x == y) HY.out hxy HN.out)
        go_wp2
        go_ret
        exact ⟨ret_i64 HF.out.symm, HB.out⟩
    · have HF := hide (idxF_none (p := fun y => x == y) (l := l) (fun j r hj hr => HN.out j r (by have := HL.out.1; omega) hr))
      go_wp2
      go_ret
      exact ⟨ret_i64 HF.out.symm, HB.out⟩

set_option maxRecDepth 100000 in
theorem contains_yes (l : List Int) (A : Option Addr) (n c : Nat) (x : Int) (W : World) (hn : n ≤ 9223372036854775807) (hl : IntsAt W W.heap.size A n l) (hx : x ∈ l) :
    Calls Try.prog 83 #[.slice A n c, .int .i64 x] W fun e W' => e = .returned (.bool true) ∧ RowKit.Below W.heap.size W W' := by
  have h0 : 0 < n := by have := List.length_pos_of_mem hx; have := hl.1; omega
  obtain ⟨b, o, rfl, _, _⟩ := hl.2.2 h0
  have HC := hide (index_walk l b o n c x W hn hl h0)
  obtain ⟨k, hk⟩ : ∃ k : Nat, idxF (fun y => x == y) l = k := by
    rcases idxF_cases (fun y => x == y) l with ⟨k, r, hk, _⟩ | ⟨_, hno⟩
    · exact ⟨k, hk⟩
    · have := hno x hx; simp at this
  rw [hk] at HC
  clear hl hx hk
  go_enter Try.func83, Try.ntmps83
  go_wp2_with fail
  refine HC.out.mono ?_
  rintro e w1 ⟨rfl, hb⟩
  have HB := hide hb
  clear hb
  go_wp2
  go_ret
  exact ⟨rfl, HB.out⟩

end Go.Proofs.Ytklbdfgblebniaa

set_option linter.unusedVariables false
set_option linter.unusedSimpArgs false
namespace Go.Proofs.Ytklbdfgblebniaa
open Go.RowKit Go.Maps Bdd

def allM : M4 := ⟨65535, 65535, 255, 255⟩
theorem allM_ok : allM.ok := ⟨by show 65535 < _; omega, by show 65535 < _; omega, by show 255 < _; omega, by show 255 < _; omega⟩

theorem bitF_true (set : Nat) : ∀ (d v n : Nat), (∀ m, n * 2 ^ d ≤ m → m < (n + 1) * 2 ^ d → set.testBit m = true) → bitF set d v n = fun _ => true := by
  intro d
  induction d with
  | zero => intro v n h; funext x; simp only [bitF]; exact h n (by simp) (by simp)
  | succ d ih =>
    intro v n h
    have e : 2 ^ (d + 1) = 2 * 2 ^ d := by rw [Nat.pow_succ, Nat.mul_comm]
    have h1 := ih (v + 1) (n * 2) (fun m a b => h m (by rw [e, ← Nat.mul_assoc]; exact a) (by
      have : (n * 2 + 1) * 2 ^ d ≤ (n + 1) * 2 ^ (d + 1) := by rw [e, ← Nat.mul_assoc]; exact Nat.mul_le_mul_right _ (by omega)
      omega))
    have h2 := ih (v + 1) (n * 2 + 1) (fun m a b => h m (by
      have : n * 2 ^ (d + 1) ≤ (n * 2 + 1) * 2 ^ d := by rw [e, ← Nat.mul_assoc]; exact Nat.mul_le_mul_right _ (by omega)
      omega) (by
      have : (n * 2 + 1 + 1) * 2 ^ d = (n + 1) * 2 ^ (d + 1) := by rw [e, ← Nat.mul_assoc]; congr 1; omega
      omega))
    simp only [bitF, h1, h2]
    funext x; simp [iteF]

theorem bits16 : ∀ m, 0 * 2 ^ 4 ≤ m → m < (0 + 1) * 2 ^ 4 → Nat.testBit 65535 m = true := fun m _ h => by
  have : ∀ i : Fin 16, Nat.testBit 65535 i.val = true := by decide +kernel
  exact this ⟨m, by simpa using h⟩
theorem bits8 : ∀ m, 0 * 2 ^ 3 ≤ m → m < (0 + 1) * 2 ^ 3 → Nat.testBit 255 m = true := fun m _ h => by
  have : ∀ i : Fin 8, Nat.testBit 255 i.val = true := by decide +kernel
  exact this ⟨m, by simpa using h⟩

theorem all_fn : ∀ x ∈ partL 65535 65535 255 255, x.fn = fun _ => true := by
  intro x hx
  simp only [partL, List.mem_cons, List.not_mem_nil, or_false] at hx
  rcases hx with rfl | rfl | rfl | rfl
  · exact bitF_true _ _ _ _ bits16
  · exact bitF_true _ _ _ _ bits8
  · exact bitF_true _ _ _ _ bits16
  · exact bitF_true _ _ _ _ bits8
theorem outs_true : ∀ (l : List PartV), (∀ x ∈ l, x.fn = fun _ => true) → outs l = fun _ => true := by
  intro l h
  have : ∀ (l : List PartV) (F : Bdd.Fn), (∀ x ∈ l, x.fn = fun _ => true) → F = (fun _ => true) → l.foldl (fun F x => iteF F x.fn (fun _ => false)) F = fun _ => true := by
    intro l
    induction l with
    | nil => intro F _ hF; exact hF
    | cons a l ih =>
      intro F h hF
      rw [List.foldl_cons]
      refine ih _ (fun x hx => h x (by simp [hx])) ?_
      rw [hF, h a (by simp)]; funext x; rfl
  exact this l _ h rfl
theorem all_outs (b : Bool) : outs (ruleL ⟨b, allM⟩) = fun _ => true := outs_true _ all_fn

def NewA (G : Bdd.Fn) : Prop := (∃ u, Cof (fun x : Asg => x u) G) ∨ ∀ x y, G x = G y
theorem cof_const {b : Bool} {G : Bdd.Fn} (h : Cof (fun _ => b) G) : ∀ x y, G x = G y := by
  obtain ⟨k, s, rfl⟩ := h
  intro x y; rfl
theorem newA_of {b : Bool} {G : Bdd.Fn} (h : NewB (ruleL ⟨b, allM⟩) G) : NewA G := by
  rcases h with ⟨u, h⟩ | ⟨x, hx, h⟩ | ⟨k, hk, h⟩
  · exact .inl ⟨u, h⟩
  · rw [all_fn x hx] at h; exact .inr (cof_const h)
  · have e : outs ((ruleL ⟨b, allM⟩).take (k + 1)) = fun _ => true := outs_true _ (fun x hx => all_fn x (List.mem_of_mem_take hx))
    rw [e] at h; exact .inr (cof_const h)

theorem newA_room {A : St} (he : Ext (newSt 14 40000) A) (hn : ∀ j, 2 ≤ j → j < A.len → NewA (den A.ns j)) : A.len ≤ 16 := by
  have hi := newSt_inv 14 40000 (by omega) (by omega)
  have hv : A.vars = 14 := he.vars
  have ok : Ok 14 A.ns := hv ▸ he.inv.ok
  obtain ⟨more, e⟩ := he.ns
  have ok' : Ok 14 ((newSt 14 40000).ns ++ more) := e ▸ ok
  have := count_new hi.ok ok' ((List.range 14).map (fun u => fun x : Asg => x u)) (fun j h1 h2 => by
    rw [← e] at h2 ⊢
    have hnc := nonconst ok h2 h1
    rcases hn j h1 h2 with ⟨u, hu⟩ | hc
    · have e1 := cof_var hu hnc
      have hu14 : u < 14 := by
        refine Classical.byContradiction fun hn => ?_
        have := den_below ok j h2 (fun _ => true) (fun v => decide (v < 14)) (fun v hv => by simp [hv])
        rw [e1] at this
        simp at this
        omega
      exact List.mem_map.2 ⟨u, List.mem_range.2 hu14, e1.symm⟩
    · obtain ⟨x, y, h⟩ := hnc
      exact absurd (hc x y) h)
  simp only [List.length_map, List.length_range] at this
  show A.ns.length ≤ _
  rw [e, List.length_append]
  have : (newSt 14 40000).ns.length = 2 := rfl
  omega

theorem aclF_all (b : Bool) (l : List RuleV) : aclF (⟨b, allM⟩ :: l) = fun _ => b := by
  simp only [aclF, all_outs]; funext x; simp [iteF]
end Go.Proofs.Ytklbdfgblebniaa

set_option linter.unusedVariables false
namespace Go.Proofs.Ytklbdfgblebniaa
open Go.RowKit

theorem own_below {w w' : World} {base e s n : Nat} {v : Value} {xs : List Value} (h : w.ownsRow base e s v n xs) (hb : RowKit.Below w.heap.size w w') : w'.ownsRow base e s v n xs :=
  own_same h (fun q hq => hb.block q (h.lt q hq).2)

theorem grow_new {B : Nat} {w w' : World} {row : Option Nat} (hb : RowKit.Below B w w') (hB : B ≤ w.heap.size) {w'' : World} (hg : w'.grownBy w'' row) (hr : ∀ k, row = some k → B ≤ k) : RowKit.Below B w w'' :=
  hb.grown hg (by have := hb.size; omega) hr
end Go.Proofs.Ytklbdfgblebniaa

set_option linter.unusedVariables false
set_option linter.unusedSimpArgs false
namespace Go.Proofs.Ytklbdfgblebniaa
open Go.RowKit Go.Maps Bdd

def codeN (x : Asg) : Nat → Nat
  | 0 => 0
  | n + 1 => codeN x n * 2 + (x n).toNat
theorem codeN_lt (x : Asg) : ∀ n, codeN x n < 2 ^ n := by
  intro n
  induction n with
  | zero => simp [codeN]
  | succ n ih =>
    have : (x n).toNat ≤ 1 := by cases x n <;> simp
    simp only [codeN, Nat.pow_succ]
    omega
theorem codeN_bit (x : Asg) : ∀ (n u : Nat), u < n → (codeN x n).testBit (n - 1 - u) = x u := by
  intro n
  induction n with
  | zero => intro u hu; omega
  | succ n ih =>
    intro u hu
    have hb : (x n).toNat ≤ 1 := by cases x n <;> simp
    rcases Nat.lt_or_ge u n with h | h
    · have e : n + 1 - 1 - u = (n - 1 - u) + 1 := by omega
      rw [e, Nat.testBit_succ]
      have : codeN x (n + 1) / 2 = codeN x n := by simp only [codeN]; omega
      rw [this]
      exact ih u h
    · obtain rfl : u = n := by omega
      have e : u + 1 - 1 - u = 0 := by omega
      rw [e, Nat.testBit_zero, Bool.eq_iff_iff, decide_eq_true_eq]
      simp only [codeN]
      cases x u <;> simp <;> omega

end Go.Proofs.Ytklbdfgblebniaa

set_option linter.unusedVariables false
set_option linter.unusedSimpArgs false
namespace Go.Proofs.Ytklbdfgblebniaa
open Go.RowKit Go.Maps Bdd

theorem below_alloc2 (w : World) (o : Obj) : RowKit.Below w.heap.size w (w.alloc o) := (RowKit.Below.refl _ _).alloc (Nat.le_refl _) o
theorem fpNew {g nb kb ib nb2 s k : Nat} (hn : nb2 = nb ∨ s ≤ nb2) (hk : k < s) (h : ¬ Fp g nb kb ib k) : ¬ Fp g nb2 kb ib k := fun e => by
  rcases e with e | e | e | e
  · exact h (.inl e)
  · rcases hn with e' | e'
    · exact h (.inr (.inl (e.trans e')))
    · omega
  · exact h (.inr (.inr (.inl e)))
  · exact h (.inr (.inr (.inr e)))

structure AS (w : World) (B g : Nat) (A : St) (bl : List Nat) : Prop where
  ar : ∃ (nb kb ib cap : Nat) (K T : Tri → Option Value), ArenaAt w B g nb kb ib cap A K T ∧ ∀ j ∈ bl, B ≤ j ∧ j < w.heap.size ∧ ¬ Fp g nb kb ib j
  nf : A.full = false
structure KP (B : Nat) (bl : List Nat) (w w' : World) : Prop where
  low : RowKit.Below B w w'
  same : ∀ j ∈ bl, w'.heap[j]? = w.heap[j]?

theorem KP.refl (B : Nat) (bl : List Nat) (w : World) : KP B bl w w := ⟨RowKit.Below.refl _ _, fun _ _ => rfl⟩
theorem KP.trans {B : Nat} {bl : List Nat} {a b c : World} (h : KP B bl a b) (k : KP B bl b c) : KP B bl a c := ⟨h.low.trans k.low, fun j hj => (k.same j hj).trans (h.same j hj)⟩
theorem KP.mono {B : Nat} {bl bl' : List Nat} {a b : World} (h : KP B bl a b) (hs : ∀ j ∈ bl', j ∈ bl) : KP B bl' a b := ⟨h.low, fun j hj => h.same j (hs j hj)⟩
section
variable {w w' : World} {B g : Nat} {A : St} {bl : List Nat}

theorem AS.inv (h : AS w B g A bl) : Inv A := by
  obtain ⟨nb, kb, ib, cap, K, T, ha, _⟩ := h.ar
  exact ha.inv
theorem AS.hB (h : AS w B g A bl) : B < w.heap.size := by
  obtain ⟨nb, kb, ib, cap, K, T, ha, _⟩ := h.ar
  obtain ⟨l1, l2, l3, l4, l5⟩ := ha.lts
  omega
theorem AS.lt (h : AS w B g A bl) : ∀ j ∈ bl, B ≤ j ∧ j < w.heap.size := by
  obtain ⟨nb, kb, ib, cap, K, T, ha, hb⟩ := h.ar
  exact fun j hj => ⟨(hb j hj).1, (hb j hj).2.1⟩
theorem AS.mono {bl' : List Nat} (h : AS w B g A bl) (hs : ∀ j ∈ bl', j ∈ bl) : AS w B g A bl' := by
  obtain ⟨nb, kb, ib, cap, K, T, ha, hb⟩ := h.ar
  exact ⟨⟨nb, kb, ib, cap, K, T, ha, fun j hj => hb j (hs j hj)⟩, h.nf⟩
theorem AS.below (h : AS w B g A bl) (hb : RowKit.Below w.heap.size w w') : AS w' B g A bl := by
  obtain ⟨nb, kb, ib, cap, K, T, ha, hf⟩ := h.ar
  exact ⟨⟨nb, kb, ib, cap, K, T, ha.below hb, fun j hj => ⟨(hf j hj).1, Nat.lt_of_lt_of_le (hf j hj).2.1 hb.size, (hf j hj).2.2⟩⟩, h.nf⟩
theorem AS.kp (h : AS w B g A bl) (hb : RowKit.Below w.heap.size w w') : KP B bl w w' := ⟨hb.mono (Nat.le_of_lt h.hB), fun j hj => hb.block j (h.lt j hj).2⟩
theorem AS.turned (h : AS w B g A bl) (hs : w.heap.size ≤ w'.heap.size) (hc : ∀ i, i < w.heap.size → i ∉ bl → w'.heap[i]? = w.heap[i]?) : AS w' B g A bl := by
  obtain ⟨nb, kb, ib, cap, K, T, ha, hf⟩ := h.ar
  obtain ⟨l1, l2, l3, l4, l5⟩ := ha.lts
  have hk : ∀ i, i < w.heap.size → Fp g nb kb ib i → w'.heap[i]? = w.heap[i]? := fun i hi hF => hc i hi (fun hm => (hf i hm).2.2 hF)
  exact ⟨⟨nb, kb, ib, cap, K, T, ha.keep (hk g l1 (.inl rfl)) (hk nb l2 (.inr (.inl rfl))) (hk kb l3 (.inr (.inr (.inl rfl)))) (hk ib l4 (.inr (.inr (.inr rfl)))), fun j hj => ⟨(hf j hj).1, Nat.lt_of_lt_of_le (hf j hj).2.1 hs, (hf j hj).2.2⟩⟩, h.nf⟩
theorem AS.add (h : AS w B g A bl) (hs : w.heap.size ≤ w'.heap.size) (hc : ∀ i, i < w.heap.size → i ∉ bl → w'.heap[i]? = w.heap[i]?) {j : Nat} (h1 : w.heap.size ≤ j) (h2 : j < w'.heap.size) : AS w' B g A (j :: bl) := by
  have hB := h.hB
  obtain ⟨⟨nb, kb, ib, cap, K, T, ha, hf⟩, hnf⟩ := h
  obtain ⟨l1, l2, l3, l4, l5⟩ := ha.lts
  have hk : ∀ i, i < w.heap.size → Fp g nb kb ib i → w'.heap[i]? = w.heap[i]? := fun i hi hF => hc i hi (fun hm => (hf i hm).2.2 hF)
  refine ⟨⟨nb, kb, ib, cap, K, T, ha.keep (hk g l1 (.inl rfl)) (hk nb l2 (.inr (.inl rfl))) (hk kb l3 (.inr (.inr (.inl rfl)))) (hk ib l4 (.inr (.inr (.inr rfl)))), fun i hi => ?_⟩, hnf⟩
  rcases List.mem_cons.1 hi with rfl | hi
  · exact ⟨by omega, h2, fun e => by rcases e with e | e | e | e <;> omega⟩
  · exact ⟨(hf i hi).1, Nat.lt_of_lt_of_le (hf i hi).2.1 hs, (hf i hi).2.2⟩
theorem AS.alloc (h : AS w B g A bl) (o : Obj) : AS (w.alloc o) B g A (w.heap.size :: bl) :=
  h.add (by simp) (fun i hi _ => (MapKept.heap_alloc w o).2 i hi) (Nat.le_refl _) (by simp)
theorem AS.grown (h : AS w B g A bl) {row : Option Nat} (hg : w.grownBy w' row) (hr : ∀ j, row = some j → j ∈ bl) : AS w' B g A bl :=
  h.turned hg.size (fun i hi hn => hg.block i hi (fun e => hn (hr i e.symm)))
theorem AS.grownNew (h : AS w B g A bl) {row : Option Nat} (hg : w.grownBy w' row) (hr : ∀ j, row = some j → j ∈ bl) {j : Nat} (h1 : w.heap.size ≤ j) (h2 : j < w'.heap.size) : AS w' B g A (j :: bl) :=
  h.add hg.size (fun i hi hn => hg.block i hi (fun e => hn (hr i e.symm))) h1 h2
theorem KP.of_grown {row : Option Nat} (hg : w.grownBy w' row) (hB : B ≤ w.heap.size) (hl : ∀ j ∈ bl, j < w.heap.size) (hr : ∀ j, row = some j → B ≤ j ∧ j ∉ bl) : KP B bl w w' :=
  ⟨⟨hg.os, hg.tape, hg.output, hg.size, fun i hi => hg.block i (by omega) (fun e => by have := (hr i e.symm).1; omega)⟩, fun j hj => hg.block j (hl j hj) (fun e => (hr j e.symm).2 hj)⟩

theorem as_new (w : World) (vars most : Nat) (hv : 1 ≤ vars) (hv2 : vars ≤ 16) (hm : 2 ≤ most) (hm2 : most ≤ 40000) :
    Calls Try.prog 18 #[.int .i64 vars, .int .i64 most] w fun e w' => ∃ g, e = .returned (.tuple #[.pointer (some ⟨g, 0, none⟩), .int .i64 0]) ∧ AS w' w.heap.size g (newSt vars most) [] ∧ RowKit.Below w.heap.size w w' :=
  (new_walk w vars most hv hv2 hm hm2).mono fun e w' hq => by
    obtain ⟨g, nb, kb, ib, he, ha, hb⟩ := hq
    exact ⟨g, he, ⟨⟨nb, kb, ib, _, _, _, ha, fun j hj => by cases hj⟩, rfl⟩, hb⟩
end
end Go.Proofs.Ytklbdfgblebniaa

set_option linter.unusedVariables false
set_option linter.unusedSimpArgs false
namespace Go.Proofs.Ytklbdfgblebniaa
open Go.RowKit Go.Maps Bdd

def Bx (w : World) (N : Nat) (vs : Array Value) (t : TypeId) : Prop := w.heap[N]? = some (.cells vs t (0, 0))
theorem Bx.new (w : World) (vs : Array Value) (t : TypeId) : Bx (w.alloc (.cells vs t)) w.heap.size vs t := heap_alloc_new w _
theorem Bx.same {w w' : World} {N : Nat} {vs : Array Value} {t : TypeId} (h : Bx w N vs t) (hs : w'.heap[N]? = w.heap[N]?) : Bx w' N vs t := hs.trans h
theorem Bx.lt {w : World} {N : Nat} {vs : Array Value} {t : TypeId} (h : Bx w N vs t) : N < w.heap.size := (Array.getElem?_eq_some_iff.1 h).1
theorem Bx.below {w w' : World} {N : Nat} {vs : Array Value} {t : TypeId} (h : Bx w N vs t) (hb : RowKit.Below w.heap.size w w') : Bx w' N vs t := h.same (hb.block N h.lt)
theorem Bx.kp {w w' : World} {B N : Nat} {bl : List Nat} {vs : Array Value} {t : TypeId} (h : Bx w N vs t) (hk : KP B bl w w') (hN : N ∈ bl) : Bx w' N vs t := h.same (hk.same N hN)
theorem Bx.get {w : World} {N : Nat} {vs : Array Value} {t : TypeId} (h : Bx w N vs t) (j : Nat) (v : Value) (hv : vs[j]? = some v) : w.cell? ⟨N, j, none⟩ = some v := by
  rw [cell_of_row _ _ _ _ _ _ h]; exact hv
theorem Bx.frozen {w : World} {N : Nat} {vs : Array Value} {t : TypeId} (h : Bx w N vs t) (o : Nat) : w.frozen? ⟨N, o, none⟩ = false := by
  have h' : w.heap[N]? = some (.cells vs t (0, 0)) := h
  unfold World.frozen?
  simp only [h']
  simp

theorem Bx.set {w : World} {N : Nat} {vs : Array Value} {t : TypeId} (h : Bx w N vs t) (j : Nat) (v : Value) : Bx (w.setCell ⟨N, j, none⟩ v) N (vs.setIfInBounds j v) t := by
  have h1 : w.heap[N]? = some (.cells vs t (0, 0)) := h
  have hlt := h.lt
  have h' : w.heap[N] = .cells vs t (0, 0) := by simpa [Array.getElem?_eq_getElem hlt] using h1
  show (w.heap.modify N _)[N]? = _
  rw [Array.getElem?_eq_getElem (by simpa using hlt), Array.getElem_modify_self, h']
  rfl
theorem Bx.far {w : World} {N : Nat} {vs : Array Value} {t : TypeId} (h : Bx w N vs t) (a : Addr) (v : Value) (hn : N ≠ a.block) : Bx (w.setCell a v) N vs t := h.same (RowKit.Below.heap_setCell w a v N hn)
theorem size_setCell (w : World) (a : Addr) (v : Value) : (w.setCell a v).heap.size = w.heap.size := by simp [World.setCell]
structure RowS (wr : World) (B g : Nat) (A : St) (base : Nat) (e : TypeId) (s : Nat) (v : Value) (n : Nat) (xs : List Value) (bl : List Nat) : Prop where
  sa : AS wr B g A (v.ownBlock.toList ++ bl)
  own : wr.ownsRow base e s v n xs
  ap : ∀ q, v.ownBlock = some q → q ∉ bl

section
variable {wr w' : World} {B g base s n : Nat} {A : St} {e : TypeId} {v : Value} {xs : List Value} {bl : List Nat}

theorem RowS.append {v5 : Value} {m : Nat} {ys : List Value} (h : RowS wr B g A base e s v n xs bl) (hown : w'.ownsRow base e s v5 m ys) (hg : wr.grownBy w' v.ownBlock) (hat : v5.ownBlock = v.ownBlock ∨ v5.ownBlock = some wr.heap.size) :
    RowS w' B g A base e s v5 m ys bl ∧ KP B bl wr w' := by
  have hB := h.sa.hB
  refine ⟨⟨?_, hown, fun q hq hm => ?_⟩, ?_⟩
  · rcases hat with e1 | e1
    · rw [e1]
      exact h.sa.grown hg (fun j hj => List.mem_append_left _ (by simp [hj]))
    · rw [e1]
      refine (h.sa.grownNew hg (fun j hj => List.mem_append_left _ (by simp [hj])) (Nat.le_refl _) (hown.lt _ e1).2).mono (fun j hj => ?_)
      simp only [Option.toList_some, List.mem_append, List.mem_cons, List.not_mem_nil, or_false] at hj ⊢
      rcases hj with a | a
      · exact .inl a
      · exact .inr (.inr a)
  · rcases hat with e1 | e1
    · exact h.ap q (e1 ▸ hq) hm
    · rw [e1] at hq
      cases hq
      exact Nat.lt_irrefl _ (h.sa.lt _ (List.mem_append_right _ hm)).2
  · refine KP.of_grown hg (Nat.le_of_lt hB) (fun j hj => (h.sa.lt j (List.mem_append_right _ hj)).2) (fun j hj => ⟨?_, h.ap j hj⟩)
    exact (h.sa.lt j (List.mem_append_left _ (by simp [hj]))).1
end
end Go.Proofs.Ytklbdfgblebniaa
