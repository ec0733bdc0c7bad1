/- A part of the proof: Mk2, Mk3, Mk4. -/
import Derived.Test.YtklbdfgblebniaaDs7

set_option linter.unusedVariables false
set_option linter.unusedSimpArgs false
namespace Go.Proofs.Ytklbdfgblebniaa
open Go.RowKit Go.Maps Bdd

structure MkG (w0 : World) (B g : Nat) (A : St) (bl : List Nat) (mk e0 : Nat) (P : Bdd.Fn → Prop) (wr : World) (A2 : St) (e2 : Nat) : Prop where
  m : MK wr B g A2 bl mk e2
  ext : Ext A A2
  nw : NwP P A A2
  kp : KP B bl w0 wr
  e0 : e2 = 0 → e0 = 0
section
variable {w0 w w' wr : World} {B g mk e0 e2 : Nat} {A A2 : St} {bl : List Nat} {P : Bdd.Fn → Prop}
theorem MkG.start (h : MK w B g A bl mk e0) (P : Bdd.Fn → Prop) : MkG w B g A bl mk e0 P w A e0 := ⟨h, Ext.refl h.inv, NwP.refl _ _, KP.refl _ _ _, id⟩
theorem MkG.below (h : MkG w0 B g A bl mk e0 P wr A2 e2) (hb : RowKit.Below wr.heap.size wr w') : MkG w0 B g A bl mk e0 P w' A2 e2 := ⟨h.m.below hb, h.ext, h.nw, h.kp.trans (h.m.kp hb), h.e0⟩
theorem MkG.step (h : MkG w0 B g A bl mk e0 P wr A2 e2) {F : Bdd.Fn} {en : Ending} (hr : MR wr B g A2 bl mk e2 P F en w') : ∃ (A3 : St) (e3 r : Nat), en = .returned (.int .i64 (r : Int)) ∧ MkG w0 B g A bl mk e0 P w' A3 e3 ∧ Ext A2 A3 ∧ (e3 = 0 → e2 = 0 ∧ IsF A3 r F) := by
  obtain ⟨A3, e3, r, h1, h2, h3, h4, h5, h6⟩ := hr
  exact ⟨A3, e3, r, h1, ⟨h2, h.ext.trans h3, h.nw.trans h4 h.m.inv h3, h.kp.trans h5, fun he => h.e0 (h6 he).1⟩, h3, h6⟩
theorem MkG.out (h : MkG w0 B g A bl mk e0 P wr A2 e2) {F : Bdd.Fn} {r : Nat} (hF : e2 = 0 → IsF A2 r F) : MR w0 B g A bl mk e0 P F (.returned (.int .i64 (r : Int))) wr :=
  ⟨A2, e2, r, rfl, h.m, h.ext, h.nw, h.kp, fun he => ⟨h.e0 he, hF he⟩⟩
end

set_option maxRecDepth 100000 in
set_option maxHeartbeats 4000000 in
theorem mk_not (w : World) (B g : Nat) (A : St) (bl : List Nat) (mk e : Nat) (h : MK w B g A bl mk e) (f : Nat) (F : Bdd.Fn) (P : Bdd.Fn → Prop) (hf : e = 0 → IsF A f F) (hP : PC P (notF F)) :
    Calls Try.prog 73 #[.pointer (some ⟨mk, 0, none⟩), .int .i64 (f : Int)] w (MR w B g A bl mk e P (notF F)) := by
  have c0 : w.cell? ⟨mk, 0, none⟩ = some (.pointer (some ⟨g, 0, none⟩)) := h.bx.get 0 _ rfl
  have c1 : w.cell? ⟨mk, 1, none⟩ = some (.int .i64 (e : Int)) := h.bx.get 1 _ rfl
  have H := hide h
  have HP := hide hP
  have her := h.er
  by_cases he : e = 0
  · subst he
    have HF := hide (hf rfl)
    clear h hP hf her
    go_enter Try.func73, Try.ntmps73
    go_wp2_with fail
    refine (aq_not H.out.sa HF.out HP.out).mono ?_
    clear c0 c1
    rintro en w1 ⟨A1, hsa, hext, hnw, hk, hres⟩
    have HE := hide hext
    have HN := hide hnw
    have HK := hide hk
    have hbx : Bx w1 mk #[.pointer (some ⟨g, 0, none⟩), .int .i64 0] 70 := H.out.bx.same (hk.same mk (by simp))
    have HM := hide (show MK w1 B g A1 bl mk 0 from ⟨hsa, hbx, .inl rfl, H.out.ap⟩)
    clear hsa hext hnw hk hbx
    rcases hres with ⟨r, rfl, hisf⟩ | ⟨rfl, hfull⟩
    · have HR := hide hisf
      clear hisf
      go_wp2_with fail
      refine (got_walk w1 B g A1 bl mk HM.out r 0 (.inl rfl)).mono ?_
      rintro en w2 hg
      have HF := hide (MR.of_got HE.out HN.out (HK.out.mono (fun j hj => List.mem_cons_of_mem _ hj)) (fun _ => HR.out) hg)
      obtain ⟨rfl, _⟩ := hg
      go_wp2
      go_ret
      exact HF.out
    · have HFU := hide hfull
      clear hfull
      go_wp2_with fail
      refine (got_walk w1 B g A1 bl mk HM.out 0 6 (.inr ⟨rfl, HFU.out⟩)).mono ?_
      rintro en w2 hg
      have HF := hide (MR.of_got (F := notF F) HE.out HN.out (HK.out.mono (fun j hj => List.mem_cons_of_mem _ hj)) (fun h => by cases h) hg)
      obtain ⟨rfl, _⟩ := hg
      go_wp2
      go_ret
      exact HF.out
  · have HF := hide (MR.none P (notF F) H.out he)
    have hne : ((e : Int) != 0) = true := by simp; omega
    clear h hP hf her he
    go_enter Try.func73, Try.ntmps73
    go_wp2
    go_ret
    exact HF.out

def anyF (F : Bdd.Fn) (a : Nat) : Nat → Bdd.Fn
  | 0 => F
  | n + 1 => existsF (anyF F a n) (a + n)
def AnyPC (P : Bdd.Fn → Prop) (F : Bdd.Fn) (a n : Nat) : Prop := ∀ k, k < n → PC P (restr (anyF F a k) (a + k) false) ∧ PC P (restr (anyF F a k) (a + k) true) ∧ PC P (existsF (anyF F a k) (a + k))

set_option maxRecDepth 100000 in
set_option maxHeartbeats 4000000 in
theorem mk_any (w : World) (B g : Nat) (A : St) (bl : List Nat) (mk e : Nat) (h : MK w B g A bl mk e) (f : Nat) (F : Bdd.Fn) (P : Bdd.Fn → Prop) (a n b : Nat) (hb : b = a + n) (hv : b ≤ A.vars) (hv2 : A.vars ≤ 16) (hf : e = 0 → IsF A f F) (hP : AnyPC P F a n) :
    Calls Try.prog 71 #[.pointer (some ⟨mk, 0, none⟩), .int .i64 (f : Int), .int .i64 (a : Int), .int .i64 (b : Int)] w (MR w B g A bl mk e P (anyF F a n)) := by
  have HG0 := hide (MkG.start h P)
  have HP := hide hP
  have HF0 := hide hf
  clear h hP hf
  have hb16 : b ≤ 16 := by omega
  have HB := hide hb
  clear hb
  go_enter Try.func71, Try.ntmps71
  go_wp2_with fail
  go_loopw [1, 9] (fun u i wr => ∃ (k : Nat) (A2 : St) (e2 r : Nat), k ≤ n ∧ i = .int .i64 ((a : Int) + (k : Int)) ∧ u = .int .i64 (r : Int) ∧ Hid (MkG w B g A bl mk e P wr A2 e2) ∧ Hid (e2 = 0 → IsF A2 r (anyF F a k))) (fun _ i _ => b - (intOf i).toNat)
  case atStart => exact ⟨0, A, e, f, Nat.zero_le _, rfl, rfl, HG0, HF0⟩
  case round =>
    clear HG0 HF0
    obtain ⟨k, A2, e2, r, hk, rfl, rfl, HG, HF⟩ := hrel
    have c0 : wr.cell? ⟨mk, 0, none⟩ = some (.pointer (some ⟨g, 0, none⟩)) := HG.out.m.bx.get 0 _ rfl
    have c1 : wr.cell? ⟨mk, 1, none⟩ = some (.int .i64 (e2 : Int)) := HG.out.m.bx.get 1 _ rfl
    have hbb := HB.out
    by_cases hlt : a + k < b
    · by_cases he : e2 = 0
      · subst he
        obtain ⟨p1, p2, p3⟩ := HP.out k (by omega)
        have hai : ((a : Int) + (k : Int)) = ((a + k : Nat) : Int) := by omega
        have HC := hide (aq_exists HG.out.m.sa (HF.out rfl) (by rw [HG.out.ext.vars]; omega) p1 p2 p3)
        rw [← hai] at HC
        clear p1 p2 p3 hai hbb
        go_wp2_with fail
        refine HC.out.mono ?_
        clear HC c0 c1
        rintro en w1 ⟨A1, hsa, hext, hnw, hkp, hres⟩
        have HE := hide hext
        have HN := hide hnw
        have HK := hide hkp
        have hbx : Bx w1 mk #[.pointer (some ⟨g, 0, none⟩), .int .i64 0] 70 := HG.out.m.bx.same (hkp.same mk (by simp))
        have HM := hide (show MK w1 B g A1 bl mk 0 from ⟨hsa, hbx, .inl rfl, HG.out.m.ap⟩)
        clear hsa hext hnw hkp hbx
        rcases hres with ⟨r1, rfl, hisf⟩ | ⟨rfl, hfull⟩
        · have HR := hide hisf
          clear hisf
          go_wp2_with fail
          refine (got_walk w1 B g A1 bl mk HM.out r1 0 (.inl rfl)).mono ?_
          rintro en w2 hg
          obtain ⟨A3, e3, r3, hen, hmg, hx3, hF3⟩ := HG.out.step (MR.of_got HE.out HN.out (HK.out.mono (fun j hj => List.mem_cons_of_mem _ hj)) (fun _ => HR.out) hg)
          obtain ⟨rfl, _⟩ := hg
          have HG3 := hide hmg
          have HF3 := hide (fun he => (hF3 he).2)
          obtain rfl : r3 = r1 := by
            have : (r1 : Int) = (r3 : Int) := by simpa using hen
            omega
          clear hmg hF3 hx3 hen HM HR HE HN HK
          go_wp2_with fail
          go_roundw
          case rel => exact ⟨k + 1, A3, e3, _, by have := HB.out; omega, by go_num, rfl, HG3, HF3⟩
          case measure => simp [intOf]; omega
        · have HFU := hide hfull
          clear hfull
          go_wp2_with fail
          refine (got_walk w1 B g A1 bl mk HM.out 0 6 (.inr ⟨rfl, HFU.out⟩)).mono ?_
          rintro en w2 hg
          obtain ⟨A3, e3, r3, hen, hmg, hx3, hF3⟩ := HG.out.step (MR.of_got (F := anyF F a (k + 1)) HE.out HN.out (HK.out.mono (fun j hj => List.mem_cons_of_mem _ hj)) (fun h => by cases h) hg)
          obtain ⟨rfl, _⟩ := hg
          have HG3 := hide hmg
          have HF3 := hide (fun he => (hF3 he).2)
          obtain rfl : r3 = 0 := by
            have : (0 : Int) = (r3 : Int) := by simpa using hen
            omega
          clear hmg hF3 hx3 hen HM HE HN HK
          go_wp2_with fail
          go_roundw
          case rel => exact ⟨k + 1, A3, e3, _, by have := HB.out; omega, by go_num, rfl, HG3, HF3⟩
          case measure => simp [intOf]; omega
      · clear hbb
        have hne : ((e2 : Int) == 0) = false := by simp; omega
        have HX := hide (HG.out.out (F := anyF F a n) (r := r) (fun h => absurd h he))
        clear he
        go_wp2
        go_ret
        exact HX.out
    · obtain rfl : k = n := by omega
      clear hbb
      have HX := hide (HG.out.out (F := anyF F a k) HF.out)
      go_wp2
      go_ret
      exact HX.out

def flip4 (F : Bdd.Fn) : Nat → Bdd.Fn
  | 0 => F
  | n + 1 => swapF (flip4 F n) n (n + 4)
def flip3 (F : Bdd.Fn) : Nat → Bdd.Fn
  | 0 => F
  | n + 1 => swapF (flip3 F n) (n + 8) (n + 11)
def flipF (F : Bdd.Fn) : Bdd.Fn := flip3 (flip4 F 4) 3
structure FlipPC (P : Bdd.Fn → Prop) (F : Bdd.Fn) : Prop where
  q4 : ∀ k, k < 4 → SwapPC P (flip4 F k) k (k + 4)
  q3 : ∀ k, k < 3 → SwapPC P (flip3 (flip4 F 4) k) (k + 8) (k + 11)

theorem CallsI {P : Program} {f : FuncId} {args args' : Array Value} {w : World} {Q : Ending → World → Prop} (h : Calls P f args w Q) (e : args = args') : Calls P f args' w Q := e ▸ h
set_option maxRecDepth 100000 in
set_option maxHeartbeats 4000000 in
theorem mk_flip (w : World) (B g : Nat) (A : St) (bl : List Nat) (mk e : Nat) (h : MK w B g A bl mk e) (f : Nat) (F : Bdd.Fn) (P : Bdd.Fn → Prop) (hv : A.vars = 14) (hf : e = 0 → IsF A f F) (hP : FlipPC P F) :
    Calls Try.prog 70 #[.pointer (some ⟨mk, 0, none⟩), .int .i64 (f : Int)] w (MR w B g A bl mk e P (flipF F)) := by
  have HG0 := hide (MkG.start h P)
  have HP := hide hP
  have HF0 := hide hf
  clear h hP hf
  go_enter Try.func70, Try.ntmps70
  go_wp2_with fail
  go_loopw [1, 7] (fun u i wr => ∃ (k : Nat) (A2 : St) (e2 r : Nat), k ≤ 4 ∧ i = .int .i64 (k : Int) ∧ u = .int .i64 (r : Int) ∧ Hid (MkG w B g A bl mk e P wr A2 e2) ∧ Hid (e2 = 0 → IsF A2 r (flip4 F k))) (fun _ i _ => 4 - (intOf i).toNat)
  case atStart => exact ⟨0, A, e, f, Nat.zero_le _, rfl, rfl, HG0, HF0⟩
  case round =>
    clear HG0 HF0
    obtain ⟨k, A2, e2, r, hk, rfl, rfl, HG, HF⟩ := hrel
    have c0 : wr.cell? ⟨mk, 0, none⟩ = some (.pointer (some ⟨g, 0, none⟩)) := HG.out.m.bx.get 0 _ rfl
    have c1 : wr.cell? ⟨mk, 1, none⟩ = some (.int .i64 (e2 : Int)) := HG.out.m.bx.get 1 _ rfl
    by_cases hlt : k < 4
    · by_cases he : e2 = 0
      · subst he
        have HC := hide (aq_swap HG.out.m.sa (i := k + 0) (j := k + 4) (HF.out rfl) (by rw [HG.out.ext.vars]; omega) (by rw [HG.out.ext.vars]; omega) (by omega) (HP.out.q4 k hlt))
        go_wp2_with fail
        refine (CallsI HC.out (by go_num)).mono ?_
        clear HC c0 c1
        rintro en w1 ⟨A1, hsa, hext, hnw, hkp, hres⟩
        have HE := hide hext
        have HN := hide hnw
        have HK := hide hkp
        have hbx : Bx w1 mk #[.pointer (some ⟨g, 0, none⟩), .int .i64 0] 70 := HG.out.m.bx.same (hkp.same mk (by simp))
        have HM := hide (show MK w1 B g A1 bl mk 0 from ⟨hsa, hbx, .inl rfl, HG.out.m.ap⟩)
        clear hsa hext hnw hkp hbx
        rcases hres with ⟨r1, rfl, hisf⟩ | ⟨rfl, hfull⟩
        · have HR := hide hisf
          clear hisf
          go_wp2_with fail
          refine (got_walk w1 B g A1 bl mk HM.out r1 0 (.inl rfl)).mono ?_
          rintro en w2 hg
          obtain ⟨A3, e3, r3, hen, hmg, hx3, hF3⟩ := HG.out.step (MR.of_got HE.out HN.out (HK.out.mono (fun j hj => List.mem_cons_of_mem _ hj)) (fun _ => HR.out) hg)
          obtain ⟨rfl, _⟩ := hg
          have HG3 := hide hmg
          have HF3 := hide (fun he => (hF3 he).2)
          obtain rfl : r3 = r1 := by
            have : (r1 : Int) = (r3 : Int) := by simpa using hen
            omega
          clear hmg hF3 hx3 hen HM HR HE HN HK
          go_wp2_with fail
          go_roundw
          case rel => exact ⟨k + 1, A3, e3, _, by omega, by go_num, rfl, HG3, HF3⟩
          case measure => simp [intOf]; omega
        · have HFU := hide hfull
          clear hfull
          go_wp2_with fail
          refine (got_walk w1 B g A1 bl mk HM.out 0 6 (.inr ⟨rfl, HFU.out⟩)).mono ?_
          rintro en w2 hg
          obtain ⟨A3, e3, r3, hen, hmg, hx3, hF3⟩ := HG.out.step (MR.of_got (F := flip4 F (k + 1)) HE.out HN.out (HK.out.mono (fun j hj => List.mem_cons_of_mem _ hj)) (fun h => by cases h) hg)
          obtain ⟨rfl, _⟩ := hg
          have HG3 := hide hmg
          have HF3 := hide (fun he => (hF3 he).2)
          obtain rfl : r3 = 0 := by
            have : (0 : Int) = (r3 : Int) := by simpa using hen
            omega
          clear hmg hF3 hx3 hen HM HE HN HK
          go_wp2_with fail
          go_roundw
          case rel => exact ⟨k + 1, A3, e3, _, by omega, by go_num, rfl, HG3, HF3⟩
          case measure => simp [intOf]; omega
      · have hne : ((e2 : Int) == 0) = false := by simp; omega
        have HF3 := hide (show e2 = 0 → IsF A2 r (flip4 F (k + 1)) from fun h => absurd h he)
        clear he
        go_wp2_with fail
        go_roundw
        case rel => exact ⟨k + 1, A2, e2, r, by omega, by go_num, rfl, HG, HF3⟩
        case measure => simp [intOf]; omega
    · have HF4 := hide (show e2 = 0 → IsF A2 r (flip4 F 4) from by have := HF.out; rwa [show k = 4 by omega] at this)
      clear HF
      go_wp2_with fail
      clear hlt hk
      go_loopw [1, 29] (fun u i wr => ∃ (k : Nat) (A2 : St) (e2 r : Nat), k ≤ 3 ∧ i = .int .i64 (k : Int) ∧ u = .int .i64 (r : Int) ∧ Hid (MkG w B g A bl mk e P wr A2 e2) ∧ Hid (e2 = 0 → IsF A2 r (flip3 (flip4 F 4) k))) (fun _ i _ => 3 - (intOf i).toNat)
      case atStart => exact ⟨0, A2, e2, r, Nat.zero_le _, rfl, rfl, HG, HF4⟩
      case round =>
        clear HG HF4 c0 c1
        obtain ⟨k, A2, e2, r, hk, rfl, rfl, HG, HF⟩ := hrel
        have c0 : wr.cell? ⟨mk, 0, none⟩ = some (.pointer (some ⟨g, 0, none⟩)) := HG.out.m.bx.get 0 _ rfl
        have c1 : wr.cell? ⟨mk, 1, none⟩ = some (.int .i64 (e2 : Int)) := HG.out.m.bx.get 1 _ rfl
        by_cases hlt : k < 3
        · by_cases he : e2 = 0
          · subst he
            have HC := hide (aq_swap HG.out.m.sa (i := k + 8) (j := k + 11) (HF.out rfl) (by rw [HG.out.ext.vars]; omega) (by rw [HG.out.ext.vars]; omega) (by omega) (HP.out.q3 k hlt))
            go_wp2_with fail
            refine (CallsI HC.out (by go_num)).mono ?_
            clear HC c0 c1
            rintro en w1 ⟨A1, hsa, hext, hnw, hkp, hres⟩
            have HE := hide hext
            have HN := hide hnw
            have HK := hide hkp
            have hbx : Bx w1 mk #[.pointer (some ⟨g, 0, none⟩), .int .i64 0] 70 := HG.out.m.bx.same (hkp.same mk (by simp))
            have HM := hide (show MK w1 B g A1 bl mk 0 from ⟨hsa, hbx, .inl rfl, HG.out.m.ap⟩)
            clear hsa hext hnw hkp hbx
            rcases hres with ⟨r1, rfl, hisf⟩ | ⟨rfl, hfull⟩
            · have HR := hide hisf
              clear hisf
              go_wp2_with fail
              refine (got_walk w1 B g A1 bl mk HM.out r1 0 (.inl rfl)).mono ?_
              rintro en w2 hg
              obtain ⟨A3, e3, r3, hen, hmg, hx3, hF3⟩ := HG.out.step (MR.of_got HE.out HN.out (HK.out.mono (fun j hj => List.mem_cons_of_mem _ hj)) (fun _ => HR.out) hg)
              obtain ⟨rfl, _⟩ := hg
              have HG3 := hide hmg
              have HF3 := hide (fun he => (hF3 he).2)
              obtain rfl : r3 = r1 := by
                have : (r1 : Int) = (r3 : Int) := by simpa using hen
                omega
              clear hmg hF3 hx3 hen HM HR HE HN HK
              go_wp2_with fail
              go_roundw
              case rel => exact ⟨k + 1, A3, e3, _, by omega, by go_num, rfl, HG3, HF3⟩
              case measure => simp [intOf]; omega
            · have HFU := hide hfull
              clear hfull
              go_wp2_with fail
              refine (got_walk w1 B g A1 bl mk HM.out 0 6 (.inr ⟨rfl, HFU.out⟩)).mono ?_
              rintro en w2 hg
              obtain ⟨A3, e3, r3, hen, hmg, hx3, hF3⟩ := HG.out.step (MR.of_got (F := flip3 (flip4 F 4) (k + 1)) HE.out HN.out (HK.out.mono (fun j hj => List.mem_cons_of_mem _ hj)) (fun h => by cases h) hg)
              obtain ⟨rfl, _⟩ := hg
              have HG3 := hide hmg
              have HF3 := hide (fun he => (hF3 he).2)
              obtain rfl : r3 = 0 := by
                have : (0 : Int) = (r3 : Int) := by simpa using hen
                omega
              clear hmg hF3 hx3 hen HM HE HN HK
              go_wp2_with fail
              go_roundw
              case rel => exact ⟨k + 1, A3, e3, _, by omega, by go_num, rfl, HG3, HF3⟩
              case measure => simp [intOf]; omega
          · have hne : ((e2 : Int) == 0) = false := by simp; omega
            have HF3 := hide (show e2 = 0 → IsF A2 r (flip3 (flip4 F 4) (k + 1)) from fun h => absurd h he)
            clear he
            go_wp2_with fail
            go_roundw
            case rel => exact ⟨k + 1, A2, e2, r, by omega, by go_num, rfl, HG, HF3⟩
            case measure => simp [intOf]; omega
        · obtain rfl : k = 3 := by omega
          have HX := hide (HG.out.out (F := flipF F) HF.out)
          clear hlt
          go_wp2
          go_ret
          exact HX.out
end Go.Proofs.Ytklbdfgblebniaa

set_option linter.unusedVariables false
set_option linter.unusedSimpArgs false
namespace Go.Proofs.Ytklbdfgblebniaa
open Go.RowKit Go.Maps Bdd

def matchF (m : M4) : Bdd.Fn := outs (partL m.src m.dst m.sport m.dport)
def MatchPC (P : Bdd.Fn → Prop) (m : M4) : Prop := ∀ G, NewB (partL m.src m.dst m.sport m.dport) G → P G

theorem MR.pre {w0 w w' : World} {B g mk e : Nat} {A : St} {bl : List Nat} {P : Bdd.Fn → Prop} {F : Bdd.Fn} {en : Ending} (hk : KP B bl w0 w) (h : MR w B g A bl mk e P F en w') : MR w0 B g A bl mk e P F en w' := by
  obtain ⟨A1, e1, r1, q1, q2, q3, q4, q5, q6⟩ := h
  exact ⟨A1, e1, r1, q1, q2, q3, q4, hk.trans q5, q6⟩
set_option maxRecDepth 100000 in
set_option maxHeartbeats 4000000 in
theorem mk_in (w : World) (B g : Nat) (A : St) (bl : List Nat) (mk e : Nat) (h : MK w B g A bl mk e) (m : M4) (hm : m.ok) (P : Bdd.Fn → Prop) (hv : A.vars = 14) (hP : MatchPC P m) :
    Calls Try.prog 43 #[.pointer (some ⟨mk, 0, none⟩), m.val] w (MR w B g A bl mk e P (matchF m)) := by
  obtain ⟨s, d, p, q⟩ := m
  obtain ⟨h1, h2, h3, h4⟩ := hm
  simp only at h1 h2 h3 h4
  have hb0 := below_alloc2 w (.cells #[.int .u16 s, .int .u16 d, .int .u8 p, .int .u8 q] 52)
  have H := hide (show MK (w.alloc (.cells #[.int .u16 s, .int .u16 d, .int .u8 p, .int .u8 q] 52)) B g A (w.heap.size :: bl) mk e from
    ⟨(h.sa.alloc _).mono (fun j hj => by simp only [List.mem_cons] at hj ⊢; rcases hj with a | a | a <;> simp [a]), h.bx.below hb0, h.er, fun hj => by
      rcases List.mem_cons.1 hj with a | a
      · have := (h.sa.lt mk (by simp)).2; omega
      · exact h.ap a⟩)
  have HX := hide (Bx.new w #[.int .u16 s, .int .u16 d, .int .u8 p, .int .u8 q] 52)
  have HK0 := hide (h.kp hb0)
  have HP := hide hP
  have H0 := hide (h.below hb0)
  have c0 := (H.out.bx.get 0 _ rfl : (w.alloc (.cells #[.int .u16 s, .int .u16 d, .int .u8 p, .int .u8 q] 52)).cell? ⟨mk, 0, none⟩ = some (.pointer (some ⟨g, 0, none⟩)))
  have c1 := (H.out.bx.get 1 _ rfl : (w.alloc (.cells #[.int .u16 s, .int .u16 d, .int .u8 p, .int .u8 q] 52)).cell? ⟨mk, 1, none⟩ = some (.int .i64 (e : Int)))
  have hir := h.inv
  have HI := hide hir
  have HLO := hide (fun (A' : St) (en : Ending) (w' : World) (hr : MR (w.alloc (.cells #[.int .u16 s, .int .u16 d, .int .u8 p, .int .u8 q] 52)) B g A (w.heap.size :: bl) mk e P (matchF ⟨s, d, p, q⟩) en w') => show MR w B g A bl mk e P (matchF ⟨s, d, p, q⟩) en w' from by
    obtain ⟨A1, e1, r1, q1, q2, q3, q4, q5, q6⟩ := hr
    exact ⟨A1, e1, r1, q1, ⟨q2.sa.mono (fun j hj => by
      rcases List.mem_cons.1 hj with a | a
      · simp [a]
      · simp [a]), q2.bx, q2.er, fun hj => q2.ap (by simp [hj])⟩, q3, q4, HK0.out.trans (q5.mono (fun j hj => by simp [hj])), q6⟩)
  clear h hP hir hb0
  simp only [M4.val]
  go_enter Try.func43, Try.ntmps43
  by_cases he : e = 0
  · subst he
    go_wp2_with fail
    clear c0 c1
    generalize World.alloc w _ = w0 at *
    generalize w.heap.size = N at *
    have HQ := hide (fun (w' : World) (hx : Bx w' N #[.int .u16 s, .int .u16 d, .int .u8 p, .int .u8 q] 52) (hk : Bx w' mk #[.pointer (some ⟨g, 0, none⟩), .int .i64 0] 70) => show (w'.cell? ⟨mk, 0, none⟩ = some (.pointer (some ⟨g, 0, none⟩))) ∧ (w'.cell? ⟨N, 0, none⟩ = some (.int .u16 s) ∧ w'.cell? ⟨N, 1, none⟩ = some (.int .u16 d) ∧ w'.cell? ⟨N, 2, none⟩ = some (.int .u8 p) ∧ w'.cell? ⟨N, 3, none⟩ = some (.int .u8 q)) from
      ⟨hk.get 0 _ rfl, hx.get 0 _ rfl, hx.get 1 _ rfl, hx.get 2 _ rfl, hx.get 3 _ rfl⟩)
    have HD := hide (RowKit.Below.drew (RowKit.Below.refl w0.heap.size w0))
    refine wp_region_E (fun w' => (w'.cell? ⟨mk, 0, none⟩ = some (.pointer (some ⟨g, 0, none⟩))) ∧ (w'.cell? ⟨N, 0, none⟩ = some (.int .u16 s) ∧ w'.cell? ⟨N, 1, none⟩ = some (.int .u16 d) ∧ w'.cell? ⟨N, 2, none⟩ = some (.int .u8 p) ∧ w'.cell? ⟨N, 3, none⟩ = some (.int .u8 q))) 6 (by kernel_rfl) (HQ.out _ (HX.out.below HD.out) (H.out.bx.below HD.out)) (fun hS inv => ?_)
    refine wpAnyE_pure (i := 0) (v := ?_) rfl (by kernel_rfl) (by kernel_rfl) (by kernel_rfl) (by kernel_rfl) (fun _ _ _ h => h) inv (Or.inl ⟨by rfl, ?_⟩) (fun _ => hS) (fun inv2 => ?_)
    rotate_left
    · intro w _
      go_simp
      try with_reducible rfl
    clear inv
    have inv := inv2
    clear inv2
    try simp only [Act.put, nrmA, nrmB, nrmC]
    refine wpAnyE_pure (i := 1) (v := ?_) rfl (by kernel_rfl) (by kernel_rfl) (by kernel_rfl) (by kernel_rfl) (fun _ _ _ h => h) inv (Or.inl ⟨by rfl, ?_⟩) (fun _ => hS) (fun inv2 => ?_)
    rotate_left
    · intro w _
      go_simp
      try with_reducible rfl
    clear inv
    have inv := inv2
    clear inv2
    try simp only [Act.put, nrmA, nrmB, nrmC]
    refine wpAnyE_pure (i := 2) (v := ?_) rfl (by kernel_rfl) (by kernel_rfl) (by kernel_rfl) (by kernel_rfl) (fun _ _ _ h => h) inv (Or.inl ⟨by rfl, ?_⟩) (fun _ => hS) (fun inv2 => ?_)
    rotate_left
    · intro w _
      go_simp
      try with_reducible rfl
    clear inv
    have inv := inv2
    clear inv2
    try simp only [Act.put, nrmA, nrmB, nrmC]
    refine wpAnyE_pure (i := 3) (v := ?_) rfl (by kernel_rfl) (by kernel_rfl) (by kernel_rfl) (by kernel_rfl) (fun _ _ _ h => h) inv (Or.inl ⟨by rfl, ?_⟩) (fun _ => hS) (fun inv2 => ?_)
    rotate_left
    · intro w _
      go_simp
      try with_reducible rfl
    clear inv
    have inv := inv2
    clear inv2
    try simp only [Act.put, nrmA, nrmB, nrmC]
    refine wpAnyE_load (i := 4) (v := ?_) [6] rfl (by kernel_rfl) (by kernel_rfl) (by kernel_rfl) (by kernel_rfl) (fun _ _ _ h => h) inv (Or.inl ⟨by rfl, ?_⟩) hS (fun inv2 => ?_)
    rotate_left
    · intro w hSw
      obtain ⟨s0, s1, s2, s3, s4⟩ := hSw
      go_simp
      try with_reducible rfl
    clear inv
    have inv := inv2
    clear inv2
    try simp only [Act.put, nrmA, nrmB, nrmC]
    refine wpAnyE_load (i := 5) (v := ?_) [6] rfl (by kernel_rfl) (by kernel_rfl) (by kernel_rfl) (by kernel_rfl) (fun _ _ _ h => h) inv (Or.inl ⟨by rfl, ?_⟩) hS (fun inv2 => ?_)
    rotate_left
    · intro w hSw
      obtain ⟨s0, s1, s2, s3, s4⟩ := hSw
      go_simp
      try with_reducible rfl
    clear inv
    have inv := inv2
    clear inv2
    try simp only [Act.put, nrmA, nrmB, nrmC]
    refine wpAnyE_one (i := 6) rfl (by kernel_rfl) inv (fun K hK => ?_)
    go_simp
    have HM1 := hide (H.out.below HD.out)
    refine (aq_match HM1.out.sa (by omega) s d p q h1 h2 h3 h4 HP.out).mono ?_
    rintro en w1 ⟨A1, hsa, hext, hnw, hkp, hres⟩
    have HE := hide hext
    have HN := hide hnw
    have HK := hide (((HM1.out.sa.kp (RowKit.Below.refl _ _)).trans hkp).mono (bl' := N :: bl) (fun j hj => List.mem_cons_of_mem _ hj))
    have hbx : Bx w1 mk #[.pointer (some ⟨g, 0, none⟩), .int .i64 0] 70 := HM1.out.bx.same (hkp.same mk (by simp))
    have hnx := (HX.out.below HD.out).same (hkp.same N (by simp))
    have HM := hide (show MK w1 B g A1 (N :: bl) mk 0 from ⟨hsa, hbx, .inl rfl, HM1.out.ap⟩)
    have HQ1 := hide (HQ.out _ hnx hbx)
    clear hsa hext hnw hkp hbx hnx hS
    rcases hres with ⟨r1, rfl, hisf⟩ | ⟨rfl, hfull⟩
    · have HR := hide hisf
      clear hisf
      have hS := HQ1.out
      go_simp
      refine hK.out _ _ (fun _ => hS) (fun inv2 => ?_)
      clear hK K hS
      clear inv
      have inv := inv2
      clear inv2
      try simp only [Act.put, nrmA, nrmB, nrmC]
      have hS := HQ1.out
      refine wpAnyE_pure (i := 7) (v := ?_) rfl (by kernel_rfl) (by kernel_rfl) (by kernel_rfl) (by kernel_rfl) (fun _ _ _ h => h) inv (Or.inl ⟨by rfl, ?_⟩) (fun _ => hS) (fun inv2 => ?_)
      rotate_left
      · intro w _
        go_simp
        try with_reducible rfl
      clear inv
      have inv := inv2
      clear inv2
      try simp only [Act.put, nrmA, nrmB, nrmC]
      refine wpAnyE_pure (i := 8) (v := ?_) rfl (by kernel_rfl) (by kernel_rfl) (by kernel_rfl) (by kernel_rfl) (fun _ _ _ h => h) inv (Or.inl ⟨by rfl, ?_⟩) (fun _ => hS) (fun inv2 => ?_)
      rotate_left
      · intro w _
        go_simp
        try with_reducible rfl
      clear inv
      have inv := inv2
      clear inv2
      try simp only [Act.put, nrmA, nrmB, nrmC]
      refine wpAnyE_late (i := 9) rfl (by kernel_rfl) inv (by kernel_rfl) (fun K hK => ?_)
      go_simp
      refine (got_walk w1 B g A1 (N :: bl) mk HM.out r1 0 (.inl rfl)).mono ?_
      rintro en w2 hg
      have HF := hide (MR.of_got HE.out HN.out HK.out (fun _ => HR.out) hg)
      obtain ⟨rfl, _⟩ := hg
      clear hS
      go_simp
      refine hK.out _ _ (fun inv2 => ?_)
      clear hK K
      clear inv
      have inv := inv2
      clear inv2
      try simp only [Act.put, nrmA, nrmB, nrmC]
      refine wpAnyE_late (i := 10) rfl (by kernel_rfl) inv (by kernel_rfl) (fun K hK => ?_)
      go_simp
      refine hK.out _ _ (fun inv2 => ?_)
      clear hK K
      clear inv
      have inv := inv2
      clear inv2
      try simp only [Act.put, nrmA, nrmB, nrmC]
      refine wpAnyE_done (by kernel_rfl) ?_ _
      clear inv
      have HF2 := hide (HLO.out A _ _ (MR.pre (HM1.out.kp (RowKit.Below.refl _ _) |> fun _ => H.out.kp HD.out) HF.out))
      go_wp2
      go_ret
      exact HF2.out
    · have HFU := hide hfull
      clear hfull
      have hS := HQ1.out
      go_simp
      refine hK.out _ _ (fun _ => hS) (fun inv2 => ?_)
      clear hK K hS
      clear inv
      have inv := inv2
      clear inv2
      try simp only [Act.put, nrmA, nrmB, nrmC]
      have hS := HQ1.out
      refine wpAnyE_pure (i := 7) (v := ?_) rfl (by kernel_rfl) (by kernel_rfl) (by kernel_rfl) (by kernel_rfl) (fun _ _ _ h => h) inv (Or.inl ⟨by rfl, ?_⟩) (fun _ => hS) (fun inv2 => ?_)
      rotate_left
      · intro w _
        go_simp
        try with_reducible rfl
      clear inv
      have inv := inv2
      clear inv2
      try simp only [Act.put, nrmA, nrmB, nrmC]
      refine wpAnyE_pure (i := 8) (v := ?_) rfl (by kernel_rfl) (by kernel_rfl) (by kernel_rfl) (by kernel_rfl) (fun _ _ _ h => h) inv (Or.inl ⟨by rfl, ?_⟩) (fun _ => hS) (fun inv2 => ?_)
      rotate_left
      · intro w _
        go_simp
        try with_reducible rfl
      clear inv
      have inv := inv2
      clear inv2
      try simp only [Act.put, nrmA, nrmB, nrmC]
      refine wpAnyE_late (i := 9) rfl (by kernel_rfl) inv (by kernel_rfl) (fun K hK => ?_)
      go_simp
      refine (got_walk w1 B g A1 (N :: bl) mk HM.out 0 6 (.inr ⟨rfl, HFU.out⟩)).mono ?_
      rintro en w2 hg
      have HF := hide (MR.of_got (F := matchF ⟨s, d, p, q⟩) HE.out HN.out HK.out (fun h => by cases h) hg)
      obtain ⟨rfl, _⟩ := hg
      clear hS
      go_simp
      refine hK.out _ _ (fun inv2 => ?_)
      clear hK K
      clear inv
      have inv := inv2
      clear inv2
      try simp only [Act.put, nrmA, nrmB, nrmC]
      refine wpAnyE_late (i := 10) rfl (by kernel_rfl) inv (by kernel_rfl) (fun K hK => ?_)
      go_simp
      refine hK.out _ _ (fun inv2 => ?_)
      clear hK K
      clear inv
      have inv := inv2
      clear inv2
      try simp only [Act.put, nrmA, nrmB, nrmC]
      refine wpAnyE_done (by kernel_rfl) ?_ _
      clear inv
      have HF2 := hide (HLO.out A _ _ (MR.pre (HM1.out.kp (RowKit.Below.refl _ _) |> fun _ => H.out.kp HD.out) HF.out))
      go_wp2
      go_ret
      exact HF2.out
  · have HX2 := hide (HLO.out A _ _ (MR.none P (matchF ⟨s, d, p, q⟩) H.out he))
    have hne : ((e : Int) != 0) = true := by simp; omega
    clear he
    go_wp2
    go_ret
    exact HX2.out

def srcM (a : Nat) : M4 := ⟨2 ^ a, 65535, 255, 255⟩
def dstM (a : Nat) : M4 := ⟨65535, 2 ^ a, 255, 255⟩
theorem pow_lt16 {a : Nat} (h : a < 16) : 2 ^ a < 65536 := Nat.pow_lt_pow_right (a := 2) (by omega) (by omega : a < 16)
theorem srcM_ok {a : Nat} (h : a < 16) : (srcM a).ok := ⟨pow_lt16 h, Nat.lt_succ_self 65535, Nat.lt_succ_self 255, Nat.lt_succ_self 255⟩
theorem dstM_ok {a : Nat} (h : a < 16) : (dstM a).ok := ⟨Nat.lt_succ_self 65535, pow_lt16 h, Nat.lt_succ_self 255, Nat.lt_succ_self 255⟩
set_option maxRecDepth 100000 in
theorem src_walk (a : Nat) (W : World) (h : a < 16) : Calls Try.prog 44 #[.int .i64 (a : Int)] W fun e W' => e = .returned (srcM a).val ∧ RowKit.Below W.heap.size W W' := by
  go_enter Try.func44, Try.ntmps44
  go_wp2_with fail
  refine (all_walk _).mono ?_
  rintro e w1 ⟨rfl, hb⟩
  have hs := hb.size
  have hsz : W.heap.size < w1.heap.size := by simp at hs; omega
  have HB := hide ((below_alloc2 W (.cells #[.int .u16 0, .int .u16 0, .int .u8 0, .int .u8 0] 52)).trans (hb.mono (by simp)))
  have HX := hide ((Bx.new W #[.int .u16 0, .int .u16 0, .int .u8 0, .int .u8 0] 52).below hb)
  clear hb hs
  have hw : IntKind.u16.wrap (2 ^ a) = ((2 ^ a : Nat) : Int) := by
    have h1 := pow_lt16 h
    have h2 : ((2 : Int) ^ a) = ((2 ^ a : Nat) : Int) := by simp
    rw [h2]
    generalize 2 ^ a = q at *
    simp only [IntKind.wrap, IntKind.signed, IntKind.bits]
    simp
    omega
  have c0 : w1.cell? ⟨W.heap.size, 0, none⟩ = some (.int .u16 0) := HX.out.get 0 _ rfl
  have c1 : w1.cell? ⟨W.heap.size, 1, none⟩ = some (.int .u16 0) := HX.out.get 1 _ rfl
  have c2 : w1.cell? ⟨W.heap.size, 2, none⟩ = some (.int .u8 0) := HX.out.get 2 _ rfl
  have c3 : w1.cell? ⟨W.heap.size, 3, none⟩ = some (.int .u8 0) := HX.out.get 3 _ rfl
  have f0 := HX.out.frozen 0
  have f1 := HX.out.frozen 1
  have f2 := HX.out.frozen 2
  have f3 := HX.out.frozen 3
  have hne : W.heap.size ≠ w1.heap.size := by omega
  go_wp2
  have hfin := ((((HX.out.set 0 (.int .u16 (2 ^ a))).set 1 (.int .u16 65535)).set 2 (.int .u8 255)).set 3 (.int .u8 255)).below (below_alloc2 _ (.cells #[.int .u16 (2 ^ a), .int .u16 65535, .int .u8 255, .int .u8 255] 52))
  refine bodyPost_ret (results_cell_row rfl _ _ W.heap.size 52 _ (0, 0) _ rfl hfin Try.underlying52 rfl (by kernel_rfl)) rfl ⟨by simp [srcM, M4.val], ?_⟩
  exact ((((HB.out.setCell (Nat.le_refl _) _).setCell (Nat.le_refl _) _).setCell (Nat.le_refl _) _).setCell (Nat.le_refl _) _).alloc (by simp [World.setCell]; omega) _
set_option maxRecDepth 100000 in
theorem dst_walk (a : Nat) (W : World) (h : a < 16) : Calls Try.prog 72 #[.int .i64 (a : Int)] W fun e W' => e = .returned (dstM a).val ∧ RowKit.Below W.heap.size W W' := by
  go_enter Try.func72, Try.ntmps72
  go_wp2_with fail
  refine (all_walk _).mono ?_
  rintro e w1 ⟨rfl, hb⟩
  have hs := hb.size
  have hsz : W.heap.size < w1.heap.size := by simp at hs; omega
  have HB := hide ((below_alloc2 W (.cells #[.int .u16 0, .int .u16 0, .int .u8 0, .int .u8 0] 52)).trans (hb.mono (by simp)))
  have HX := hide ((Bx.new W #[.int .u16 0, .int .u16 0, .int .u8 0, .int .u8 0] 52).below hb)
  clear hb hs
  have hw : IntKind.u16.wrap (2 ^ a) = ((2 ^ a : Nat) : Int) := by
    have h1 := pow_lt16 h
    have h2 : ((2 : Int) ^ a) = ((2 ^ a : Nat) : Int) := by simp
    rw [h2]
    generalize 2 ^ a = q at *
    simp only [IntKind.wrap, IntKind.signed, IntKind.bits]
    simp
    omega
  have c0 : w1.cell? ⟨W.heap.size, 0, none⟩ = some (.int .u16 0) := HX.out.get 0 _ rfl
  have c1 : w1.cell? ⟨W.heap.size, 1, none⟩ = some (.int .u16 0) := HX.out.get 1 _ rfl
  have c2 : w1.cell? ⟨W.heap.size, 2, none⟩ = some (.int .u8 0) := HX.out.get 2 _ rfl
  have c3 : w1.cell? ⟨W.heap.size, 3, none⟩ = some (.int .u8 0) := HX.out.get 3 _ rfl
  have f0 := HX.out.frozen 0
  have f1 := HX.out.frozen 1
  have f2 := HX.out.frozen 2
  have f3 := HX.out.frozen 3
  have hne : W.heap.size ≠ w1.heap.size := by omega
  go_wp2
  have hfin := ((((HX.out.set 0 (.int .u16 65535)).set 1 (.int .u16 (2 ^ a))).set 2 (.int .u8 255)).set 3 (.int .u8 255)).below (below_alloc2 _ (.cells #[.int .u16 65535, .int .u16 (2 ^ a), .int .u8 255, .int .u8 255] 52))
  refine bodyPost_ret (results_cell_row rfl _ _ W.heap.size 52 _ (0, 0) _ rfl hfin Try.underlying52 rfl (by kernel_rfl)) rfl ⟨by simp [dstM, M4.val], ?_⟩
  exact ((((HB.out.setCell (Nat.le_refl _) _).setCell (Nat.le_refl _) _).setCell (Nat.le_refl _) _).setCell (Nat.le_refl _) _).alloc (by simp [World.setCell]; omega) _
end Go.Proofs.Ytklbdfgblebniaa

set_option linter.unusedVariables false
set_option linter.unusedSimpArgs false
namespace Go.Proofs.Ytklbdfgblebniaa
open Go.RowKit Go.Maps Bdd

def fromF (F : Bdd.Fn) (a : Nat) : Bdd.Fn := andF (anyF F 0 4) (matchF (srcM a))
def toF (F : Bdd.Fn) (a : Nat) : Bdd.Fn := andF (anyF F 4 4) (matchF (dstM a))
def FromPC (P : Bdd.Fn → Prop) (F : Bdd.Fn) (a : Nat) : Prop := AnyPC P F 0 4 ∧ MatchPC P (srcM a) ∧ PC P (fromF F a)
def ToPC (P : Bdd.Fn → Prop) (F : Bdd.Fn) (a : Nat) : Prop := AnyPC P F 4 4 ∧ MatchPC P (dstM a) ∧ PC P (toF F a)

set_option maxRecDepth 100000 in
set_option maxHeartbeats 4000000 in
theorem mk_from (w : World) (B g : Nat) (A : St) (bl : List Nat) (mk e : Nat) (h : MK w B g A bl mk e) (f : Nat) (F : Bdd.Fn) (P : Bdd.Fn → Prop) (a : Nat) (ha : a < 16) (hv : A.vars = 14) (hf : e = 0 → IsF A f F) (hP : FromPC P F a) :
    Calls Try.prog 75 #[.pointer (some ⟨mk, 0, none⟩), .int .i64 (f : Int), .int .i64 (a : Int)] w (MR w B g A bl mk e P (fromF F a)) := by
  have HA := hide (mk_any w B g A bl mk e h f F P 0 4 4 rfl (by omega) (by omega) hf hP.1)
  have HG0 := hide (MkG.start h P)
  have HP := hide hP.2
  have HV := hide hv
  clear h hP hf hv
  go_enter Try.func75, Try.ntmps75
  go_wp2_with fail
  refine HA.out.mono ?_
  clear HA
  rintro en w1 hr
  obtain ⟨A1, e1, r1, rfl, hg, hx, hF⟩ := HG0.out.step hr
  have HG1 := hide hg
  have HF1 := hide (fun h => (hF h).2)
  clear hr hg hx hF HG0
  go_wp2_with fail
  refine (src_walk a w1 ha).mono ?_
  rintro en w2 ⟨rfl, hb⟩
  have HG2 := hide (HG1.out.below hb)
  clear hb HG1
  go_wp2_with fail
  refine (mk_in w2 B g A1 bl mk e1 HG2.out.m (srcM a) (srcM_ok ha) P (by rw [HG2.out.ext.vars]; exact HV.out) HP.out.1).mono ?_
  rintro en w3 hr
  obtain ⟨A3, e3, r3, rfl, hg, hx, hF⟩ := HG2.out.step hr
  have HG3 := hide hg
  have HF3 := hide (fun h => (hF h).2)
  have HF13 := hide (fun h => (HF1.out (hF h).1).ext HG2.out.m.inv hx)
  clear hr hg hx hF HG2 HF1
  go_wp2_with fail
  refine (mk_and w3 B g A3 bl mk e3 HG3.out.m r1 r3 (anyF F 0 4) (matchF (srcM a)) P HF13.out HF3.out HP.out.2).mono ?_
  rintro en w4 hr
  obtain ⟨A4, e4, r4, rfl, hg, hx, hF⟩ := HG3.out.step hr
  have HX := hide (hg.out (F := fromF F a) (r := r4) (fun h => (hF h).2))
  clear hr hg hx hF
  go_wp2
  go_ret
  exact HX.out
set_option maxRecDepth 100000 in
set_option maxHeartbeats 4000000 in
theorem mk_to (w : World) (B g : Nat) (A : St) (bl : List Nat) (mk e : Nat) (h : MK w B g A bl mk e) (f : Nat) (F : Bdd.Fn) (P : Bdd.Fn → Prop) (a : Nat) (ha : a < 16) (hv : A.vars = 14) (hf : e = 0 → IsF A f F) (hP : ToPC P F a) :
    Calls Try.prog 74 #[.pointer (some ⟨mk, 0, none⟩), .int .i64 (f : Int), .int .i64 (a : Int)] w (MR w B g A bl mk e P (toF F a)) := by
  have HA := hide (mk_any w B g A bl mk e h f F P 4 4 8 rfl (by omega) (by omega) hf hP.1)
  have HG0 := hide (MkG.start h P)
  have HP := hide hP.2
  have HV := hide hv
  clear h hP hf hv
  go_enter Try.func74, Try.ntmps74
  go_wp2_with fail
  refine HA.out.mono ?_
  clear HA
  rintro en w1 hr
  obtain ⟨A1, e1, r1, rfl, hg, hx, hF⟩ := HG0.out.step hr
  have HG1 := hide hg
  have HF1 := hide (fun h => (hF h).2)
  clear hr hg hx hF HG0
  go_wp2_with fail
  refine (dst_walk a w1 ha).mono ?_
  rintro en w2 ⟨rfl, hb⟩
  have HG2 := hide (HG1.out.below hb)
  clear hb HG1
  go_wp2_with fail
  refine (mk_in w2 B g A1 bl mk e1 HG2.out.m (dstM a) (dstM_ok ha) P (by rw [HG2.out.ext.vars]; exact HV.out) HP.out.1).mono ?_
  rintro en w3 hr
  obtain ⟨A3, e3, r3, rfl, hg, hx, hF⟩ := HG2.out.step hr
  have HG3 := hide hg
  have HF3 := hide (fun h => (hF h).2)
  have HF13 := hide (fun h => (HF1.out (hF h).1).ext HG2.out.m.inv hx)
  clear hr hg hx hF HG2 HF1
  go_wp2_with fail
  refine (mk_and w3 B g A3 bl mk e3 HG3.out.m r1 r3 (anyF F 4 4) (matchF (dstM a)) P HF13.out HF3.out HP.out.2).mono ?_
  rintro en w4 hr
  obtain ⟨A4, e4, r4, rfl, hg, hx, hF⟩ := HG3.out.step hr
  have HX := hide (hg.out (F := toF F a) (r := r4) (fun h => (hF h).2))
  clear hr hg hx hF
  go_wp2
  go_ret
  exact HX.out
end Go.Proofs.Ytklbdfgblebniaa
