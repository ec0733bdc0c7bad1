/- acl.Check, acl.Build -/
import Derived.Test.YtidikopjfpioaaaBS
import Derived.Test.YtidikopjfpioaaaLets
set_option linter.unusedVariables false
set_option linter.unusedSimpArgs false
namespace Go.Proofs.Ytidikopjfpioaaa
open Go.RowKit Go.Maps Bdd

def ruleL (r : RuleV) : List PartV := partL r.m.src r.m.dst r.m.sport r.m.dport
def aclF : List RuleV → Bdd.Fn
  | [] => fun _ => false
  | r :: l => iteF (outs (ruleL r)) (fun _ => r.permit) (aclF l)
theorem aclF_drop {l : List RuleV} {k : Nat} {r : RuleV} (h : l[k]? = some r) : aclF (l.drop k) = iteF (outs (ruleL r)) (fun _ => r.permit) (aclF (l.drop (k + 1))) := by
  obtain ⟨hk, e⟩ := List.getElem?_eq_some_iff.1 h
  rw [List.drop_eq_getElem_cons hk, e]; rfl

set_option maxRecDepth 100000 in
theorem aclCheck_walk (A : Option Addr) (n c : Nat) (W : World) : Calls Try.prog 34 #[.slice A n c] W fun e W' => e = .returned (.int .i64 (if 8 < n then 2 else 0)) ∧ W = W' := by
  by_cases h : 8 < n
  · have h8 : decide ((8 : Int) < (n : Int)) = true := by simp; omega
    rw [if_pos h]
    go_enter Try.func34, Try.ntmps34
    go_wp2
    go_ret
    exact ⟨rfl, rfl⟩
  · have h8 : decide ((8 : Int) < (n : Int)) = false := by simp; omega
    rw [if_neg h]
    go_enter Try.func34, Try.ntmps34
    go_wp2
    go_ret
    exact ⟨rfl, rfl⟩

set_option maxRecDepth 100000 in
theorem aclBuild_large (gp : Value) (A : Option Addr) (n c : Nat) (W : World) (h : 8 < n) : Calls Try.prog 37 #[gp, .slice A n c] W fun e W' => e = .returned (.tuple #[.int .i64 0, .int .i64 2]) ∧ W = W' := by
  go_enter Try.func37, Try.ntmps37
  go_wp2_with fail
  refine (aclCheck_walk _ _ _ _).mono ?_
  rintro e w1 ⟨rfl, rfl⟩
  rw [if_pos h]
  go_wp2
  go_ret2
  exact ⟨rfl, rfl⟩

set_option maxRecDepth 100000 in
set_option maxHeartbeats 8000000 in
theorem aclBuild_gen {w : World} {B g nb kb ib cap : Nat} {A : St} {K T : Tri → Option Value} (h : ArenaAt w B g nb kb ib cap A K T) (hA : A.full = false) (hv : 14 ≤ A.vars) (l : List RuleV) (a : Option Addr) (n c : Nat) (hn : n ≤ 8)
    (hlen : l.length = n) (hl : ∀ w', Frm (Fp g nb kb ib) w w' → RulesAt w' w'.heap.size a n l) (P : Bdd.Fn → Prop) (hR : ∀ r ∈ l, ∀ G, NewB (ruleL r) G → P G) (hS : ∀ k G, Cof (aclF (l.drop k)) G → P G) :
    Calls Try.prog 37 #[.pointer (some ⟨g, 0, none⟩), .slice a n c] w (BP w B g nb kb ib A (aclF l) P) := by
  have H := hide h
  have HV := hide hv
  have HL := hide hl
  have HR := hide hR
  have HS := hide hS
  have HB0 := hide (BS.refl h hA P)
  have HZ0 := hide (IsF.zero h.inv)
  have hn8 : ¬ 8 < n := by omega
  clear h hA hv hl hR hS
  go_enter Try.func37, Try.ntmps37
  go_wp2_with fail
  refine (aclCheck_walk _ _ _ _).mono ?_
  rintro e w1 ⟨rfl, rfl⟩
  rw [if_neg hn8]
  go_wp2
  go_loopw [7, 8] (fun u i wr => ∃ (k r nb2 cap2 : Nat) (A2 : St) (K2 T2 : Tri → Option Value), k ≤ n ∧ i = .int .i64 ((k : Int) - 1) ∧ u = .int .i64 r ∧ Hid (BS w B g nb kb ib A P wr nb2 cap2 A2 K2 T2) ∧ Hid (IsF A2 r (aclF (l.drop k)))) (fun _ i _ => (intOf i + 1).toNat)
  case atStart => exact ⟨n, 0, nb, cap, A, K, T, Nat.le_refl _, rfl, rfl, HB0, hide (by rw [List.drop_of_length_le (by omega)]; exact HZ0.out)⟩
  case round =>
    clear HB0 HZ0
    obtain ⟨k, r, nb2, cap2, A2, K2, T2, hk, rfl, rfl, HP, HF⟩ := hrel
    by_cases hlt : 0 < k
    · obtain ⟨j, rfl⟩ : ∃ j, k = j + 1 := ⟨k - 1, by omega⟩
      obtain ⟨x, hx⟩ : ∃ x, l[j]? = some x := ⟨_, List.getElem?_eq_getElem (by omega)⟩
      have hra := HL.out wr HP.out.fm
      obtain ⟨b, o, rfl, hbB, _⟩ := hra.2.2 (by omega)
      obtain ⟨q0, q1, q2, q3, q4⟩ := (hra.get hx).2
      have HX := hide hx
      obtain ⟨hs, hd, hp, hq⟩ := hra.2.1 x (List.mem_of_getElem? hx)
      have HE := hide (aclF_drop hx)
      have HBW := hide ((build_walk HP.out.ar HP.out.nf (by rw [HP.out.ext.vars]; exact HV.out) x.m.src x.m.dst x.m.sport x.m.dport hs hd hp hq))
      have HPX := hide (HR.out x (List.mem_of_getElem? hx))
      clear hx hs hd hp hq hra
      obtain ⟨xp, xs, xd, xsp, xdp⟩ := x
      have ej : ((j + 1 : Nat) : Int) - 1 = (j : Int) := by omega
      rw [ej]
      clear ej
      go_wp2_with fail
      refine HBW.out.mono ?_
      rintro e wb hbp
      obtain ⟨nb3, cap3, A3, K3, T3, hst, hx3, hres⟩ := HP.out.step H.out (hbp.mono HPX.out)
      have HP3 := hide hst
      have HF3 := hide (HF.out.ext HP.out.inv hx3)
      clear hbp hst hx3 HBW HP HF HPX
      have hc0 := ((HL.out wb HP3.out.fm).get HX.out).2.1
      clear q0 q1 q2 q3 q4
      rcases hres with ⟨f, rfl, hisf⟩ | ⟨rfl, hfull⟩
      case inr =>
        have HFF := hide (HP3.out.out (F := aclF l) (.inr ⟨rfl, hfull⟩))
        clear hfull
        go_wp2
        go_ret2
        exact HFF.out
      have HI := hide hisf
      clear hisf
      cases xp
      · have HC : Hid (Calls Try.prog 66 #[.pointer (some ⟨g, 0, none⟩), .int .i64 f, .int .i64 0, .int .i64 r] wb (BP wb B g nb3 kb ib A3 (iteF (outs (ruleL ⟨false, xs, xd, xsp, xdp⟩)) (fun _ => false) (aclF (l.drop (j + 1)))) P)) := hide (opIte_bp HP3.out.ar HP3.out.nf HI.out (IsF.zero HP3.out.inv) HF3.out (fun G hG => HS.out j G (HE.out.symm ▸ hG)))
        go_wp2_with fail
        refine HC.out.mono ?_
        rintro e wc hbp
        obtain ⟨nb4, cap4, A4, K4, T4, hst, hx4, hres⟩ := HP3.out.step H.out hbp
        have HP4 := hide hst
        clear hbp hst hx4 HC HP3 HF3 HI hc0
        rcases hres with ⟨q, rfl, hisf⟩ | ⟨rfl, hfull⟩
        case inr =>
          have HFF := hide (HP4.out.out (F := aclF l) (.inr ⟨rfl, hfull⟩))
          clear hfull
          go_wp2
          go_ret2
          exact HFF.out
        have HI4 := hide hisf
        clear hisf
        go_wp2
        go_roundw
        case rel => exact ⟨j, q, nb4, cap4, A4, K4, T4, by omega, rfl, rfl, HP4, hide (HE.out.symm ▸ HI4.out)⟩
        case measure => simp [intOf]
      · have HC : Hid (Calls Try.prog 66 #[.pointer (some ⟨g, 0, none⟩), .int .i64 f, .int .i64 1, .int .i64 r] wb (BP wb B g nb3 kb ib A3 (iteF (outs (ruleL ⟨true, xs, xd, xsp, xdp⟩)) (fun _ => true) (aclF (l.drop (j + 1)))) P)) := hide (opIte_bp HP3.out.ar HP3.out.nf HI.out (IsF.one HP3.out.inv) HF3.out (fun G hG => HS.out j G (HE.out.symm ▸ hG)))
        go_wp2_with fail
        refine HC.out.mono ?_
        rintro e wc hbp
        obtain ⟨nb4, cap4, A4, K4, T4, hst, hx4, hres⟩ := HP3.out.step H.out hbp
        have HP4 := hide hst
        clear hbp hst hx4 HC HP3 HF3 HI hc0
        rcases hres with ⟨q, rfl, hisf⟩ | ⟨rfl, hfull⟩
        case inr =>
          have HFF := hide (HP4.out.out (F := aclF l) (.inr ⟨rfl, hfull⟩))
          clear hfull
          go_wp2
          go_ret2
          exact HFF.out
        have HI4 := hide hisf
        clear hisf
        go_wp2
        go_roundw
        case rel => exact ⟨j, q, nb4, cap4, A4, K4, T4, by omega, rfl, rfl, HP4, hide (HE.out.symm ▸ HI4.out)⟩
        case measure => simp [intOf]
    · have hk0 : k = 0 := by omega
      subst hk0
      have HFF := hide (HP.out.out (F := aclF l) (.inl ⟨r, rfl, HF.out⟩))
      go_wp2
      go_ret2
      exact HFF.out

theorem aclBuild_walk {w : World} {B g nb kb ib cap : Nat} {A : St} {K T : Tri → Option Value} (h : ArenaAt w B g nb kb ib cap A K T) (hA : A.full = false) (hv : 14 ≤ A.vars) (l : List RuleV) (a : Option Addr) (n c : Nat) (hn : n ≤ 8)
    (hl : RulesAt w B a n l) (P : Bdd.Fn → Prop) (hR : ∀ r ∈ l, ∀ G, NewB (ruleL r) G → P G) (hS : ∀ k G, Cof (aclF (l.drop k)) G → P G) :
    Calls Try.prog 37 #[.pointer (some ⟨g, 0, none⟩), .slice a n c] w (BP w B g nb kb ib A (aclF l) P) :=
  aclBuild_gen h hA hv l a n c hn hl.1 (fun w' hf => by
    have hb := h.frmBelow hf
    have hs := hf.size
    obtain ⟨l1, _, _, _, _⟩ := h.lts
    exact hl.below hb (by have := h.lo.1; omega)) P hR hS
end Go.Proofs.Ytidikopjfpioaaa
