/- DifferRules: Rules answers what the document says, or that there is no room. No condition. -/
import Derived.Test.YtoanimmlpfchjaaDifferW
set_option linter.unusedVariables false
set_option linter.unusedSimpArgs false
namespace Go.Proofs.Ytoanimmlpfchjaa
open Go.ChangeShapes Go.WideShapes Go.ChangeAt Go.RowKit Go.Maps Bdd

set_option maxRecDepth 100000 in
set_option maxHeartbeats 4000000 in
theorem drClos1_walk (w : World) (kl : Nat) (l : List RuleV) (A : Option Addr) (n cp : Nat) (c : Nat) (hc : c < 16384) (hn : n ≤ 9223372036854775807) (hkl : kl < w.heap.size)
    (x0 : w.cell? ⟨kl, 0, none⟩ = some (.slice A n cp)) (hl : RulesAt w w.heap.size A n l) :
    Calls Try.prog 64 (#[packVal c] ++ #[.pointer (some ⟨kl, 0, none⟩)]) w fun e W' => e = .returned (.bool (letsB l (pk c))) ∧ RowKit.Below w.heap.size w W' := by
  have hne1 : kl ≠ w.heap.size := by omega
  show Calls Try.prog 64 #[packVal c, .pointer (some ⟨kl, 0, none⟩)] w _
  have HO := hide (fun w1 (hb : RowKit.Below w.heap.size w w1) => refLets_any l A n cp (pk c) w1 hn (hl.below hb hb.size))
  have hz : ∀ o, RowKit.Below w.heap.size w (w.alloc o) := fun o => (RowKit.Below.refl _ _).alloc (Nat.le_refl _) _
  clear hl
  rw [pk_val]
  generalize pk c = p at *
  obtain ⟨x, y, z, u⟩ := p
  go_enter Try.func64, Try.ntmps64
  go_wp2_with fail
  refine (HO.out _ (hz _)).mono ?_
  rintro e w1 ⟨rfl, hb1⟩
  have HB := hide ((hz _).trans (hb1.mono (by simp)))
  clear hb1 hz
  go_wp2
  go_ret
  exact ⟨rfl, HB.out⟩
set_option maxRecDepth 100000 in
set_option maxHeartbeats 4000000 in
theorem drClos2_walk (w : World) (kl : Nat) (l : List RuleV) (A : Option Addr) (n cp : Nat) (c : Nat) (hc : c < 16384) (hn : n ≤ 9223372036854775807) (hkl : kl < w.heap.size)
    (x0 : w.cell? ⟨kl, 0, none⟩ = some (.slice A n cp)) (hl : RulesAt w w.heap.size A n l) :
    Calls Try.prog 66 (#[packVal c] ++ #[.pointer (some ⟨kl, 0, none⟩)]) w fun e W' => e = .returned (.bool (letsB l (pk c))) ∧ RowKit.Below w.heap.size w W' := by
  have hne1 : kl ≠ w.heap.size := by omega
  show Calls Try.prog 66 #[packVal c, .pointer (some ⟨kl, 0, none⟩)] w _
  have HO := hide (fun w1 (hb : RowKit.Below w.heap.size w w1) => refLets_any l A n cp (pk c) w1 hn (hl.below hb hb.size))
  have hz : ∀ o, RowKit.Below w.heap.size w (w.alloc o) := fun o => (RowKit.Below.refl _ _).alloc (Nat.le_refl _) _
  clear hl
  rw [pk_val]
  generalize pk c = p at *
  obtain ⟨x, y, z, u⟩ := p
  go_enter Try.func66, Try.ntmps66
  go_wp2_with fail
  refine (HO.out _ (hz _)).mono ?_
  rintro e w1 ⟨rfl, hb1⟩
  have HB := hide ((hz _).trans (hb1.mono (by simp)))
  clear hb1 hz
  go_wp2
  go_ret
  exact ⟨rfl, HB.out⟩

set_option maxRecDepth 100000 in
set_option maxHeartbeats 8000000 in
theorem differRulesLaw_walk (l1 l2 : List RuleV) (ad1 ad2 : Option Addr) (n1 n2 c1 c2 : Nat) (most : Int) (W : World) (hn1 : n1 ≤ maxLen) (hn2 : n2 ≤ maxLen) (hm : i64ok most) (hl1 : RulesAt W W.heap.size ad1 n1 l1) (hl2 : RulesAt W W.heap.size ad2 n2 l2) :
    Calls Try.prog 13 #[.slice ad1 n1 c1, .slice ad2 n2 c2, .int .i64 most] W fun e W' => e = .returned (.bool true) ∧ RowKit.Below W.heap.size W W' := by
  unfold maxLen at hn1 hn2
  obtain ⟨hm1, hm2⟩ := hm
  have HB0 := hide (show RowKit.Below W.heap.size W ((W.alloc (.cells #[.slice ad1 n1 c1] 33)).alloc (.cells #[.slice ad2 n2 c2] 33)) from ((RowKit.Below.refl _ _).alloc (Nat.le_refl _) _).alloc (by simp) _)
  have HX : Hid (∀ w', RowKit.Below (W.heap.size + 2) ((W.alloc (.cells #[.slice ad1 n1 c1] 33)).alloc (.cells #[.slice ad2 n2 c2] 33)) w' →
      w'.cell? ⟨W.heap.size, 0, none⟩ = some (.slice ad1 n1 c1) ∧ w'.cell? ⟨W.heap.size + 1, 0, none⟩ = some (.slice ad2 n2 c2)) := hide (fun w' hb =>
    ⟨(hb.cell (p := ⟨W.heap.size, 0, none⟩) (by show W.heap.size < _; omega)).trans (by simp), (hb.cell (p := ⟨W.heap.size + 1, 0, none⟩) (by show W.heap.size + 1 < _; omega)).trans (by simp)⟩)
  have hsz : ((W.alloc (.cells #[.slice ad1 n1 c1] 33)).alloc (.cells #[.slice ad2 n2 c2] 33)).heap.size = W.heap.size + 2 := by simp
  have HSZ := hide hsz
  have HL := hide (And.intro hl1 hl2)
  clear hsz hl1 hl2
  by_cases hlarge : 8 < n1 ∨ 8 < n2
  · have HC := hide (fun w1 => differRules_large w1 ad1 ad2 n1 n2 c1 c2 most hlarge)
    go_enter Try.func13, Try.ntmps13
    go_wp2_with fail
    refine (HC.out _).mono ?_
    rintro e w1 ⟨rfl, hb⟩
    unfold drErr
    have hs1 := hb.size
    have HBa := hide (hb.alloc hb.size (.cells #[.int .i64 0, .int .i64 0, .int .i64 0, .int .i64 0] 29))
    have HXa := hide (PBox.new w1 0 0 0 0 29)
    have hpl : w1.heap.size < (w1.alloc (.cells #[.int .i64 0, .int .i64 0, .int .i64 0, .int .i64 0] 29)).heap.size := by simp
    have hw1 : W.heap.size + 2 ≤ w1.heap.size := by rw [← HSZ.out]; exact hs1
    obtain ⟨y0, y1⟩ := HX.out _ (HSZ.out ▸ HBa.out)
    clear hb hs1
    by_cases h1 : 8 < n1
    · have h8 : decide ((8 : Int) < (n1 : Int)) = true := by simp; omega
      go_wp2
      go_ret
      exact ⟨by simp, HB0.out.trans (HBa.out.mono HB0.out.size)⟩
    · have h8 : decide ((8 : Int) < (n1 : Int)) = false := by simp; omega
      have h9 : decide ((8 : Int) < (n2 : Int)) = true := by simp; omega
      go_wp2
      go_ret
      exact ⟨by simp, HB0.out.trans (HBa.out.mono HB0.out.size)⟩
  have h1 : n1 ≤ 8 := by omega
  have h2 : n2 ≤ 8 := by omega
  have h8 : decide ((8 : Int) < (n1 : Int)) = false := by simp; omega
  have h9 : decide ((8 : Int) < (n2 : Int)) = false := by simp; omega
  by_cases hbad : most < 2 ∨ 40000 < most
  · have HC := hide (fun w1 => differRules_most w1 ad1 ad2 n1 n2 c1 c2 most h1 h2 hbad)
    have hin : inR most 2 40000 = false := by simp [inR]; omega
    clear hbad hlarge h1 h2
    go_enter Try.func13, Try.ntmps13
    go_wp2_with fail
    refine (HC.out _).mono ?_
    rintro e w1 ⟨rfl, hb⟩
    unfold drErr
    have hs1 := hb.size
    have HBa := hide (hb.alloc hb.size (.cells #[.int .i64 0, .int .i64 0, .int .i64 0, .int .i64 0] 29))
    have HXa := hide (PBox.new w1 0 0 0 0 29)
    have hpl : w1.heap.size < (w1.alloc (.cells #[.int .i64 0, .int .i64 0, .int .i64 0, .int .i64 0] 29)).heap.size := by simp
    have hw1 : W.heap.size + 2 ≤ w1.heap.size := by rw [← HSZ.out]; exact hs1
    obtain ⟨y0, y1⟩ := HX.out _ (HSZ.out ▸ HBa.out)
    clear hb hs1
    go_wp2_with (go_at_call 48; refine (inR_is _ hin).mono ?_; rintro e w' ⟨rfl, rfl⟩)
    go_ret
    exact ⟨by simp, HB0.out.trans (HBa.out.mono HB0.out.size)⟩
  obtain ⟨m, rfl⟩ : ∃ m : Nat, most = (m : Int) := ⟨most.toNat, by omega⟩
  have hin : inR (m : Int) 2 40000 = true := by simp [inR]; omega
  have HC := hide (fun w1 (hb : RowKit.Below W.heap.size W w1) => differRules_walk w1 l1 l2 ad1 ad2 n1 n2 c1 c2 m h1 h2 (by omega) (by omega) (HL.out.1.below hb hb.size) (HL.out.2.below hb hb.size))
  have HN := hide (And.intro h1 h2)
  clear hbad hlarge h1 h2
  go_enter Try.func13, Try.ntmps13
  go_wp2_with fail
  refine (HC.out _ HB0.out).mono ?_
  rintro e w1 ⟨hb, rfl | rfl⟩
  · unfold drErr
    have hs1 := hb.size
    have HBa := hide (hb.alloc hb.size (.cells #[.int .i64 0, .int .i64 0, .int .i64 0, .int .i64 0] 29))
    have HXa := hide (PBox.new w1 0 0 0 0 29)
    have hpl : w1.heap.size < (w1.alloc (.cells #[.int .i64 0, .int .i64 0, .int .i64 0, .int .i64 0] 29)).heap.size := by simp
    have hw1 : W.heap.size + 2 ≤ w1.heap.size := by rw [← HSZ.out]; exact hs1
    obtain ⟨y0, y1⟩ := HX.out _ (HSZ.out ▸ HBa.out)
    clear hb hs1
    go_wp2_with (go_at_call 48; refine (inR_is _ hin).mono ?_; rintro e w' ⟨rfl, rfl⟩)
    go_ret
    exact ⟨by simp, HB0.out.trans (HBa.out.mono HB0.out.size)⟩
  have HLS : Hid (∀ w2, RowKit.Below (W.heap.size + 2) ((W.alloc (.cells #[.slice ad1 n1 c1] 33)).alloc (.cells #[.slice ad2 n2 c2] 33)) w2 → (∀ (args : Array Value) (w : World), (callFunc 64 args).run Try.prog w = .ok (.enter 64 args) w) → (∀ (args : Array Value) (w : World), (callFunc 66 args).run Try.prog w = .ok (.enter 66 args) w) →
      Calls Try.prog 63 #[.func (.func 64) #[] #[.pointer (some ⟨W.heap.size, 0, none⟩)], .func (.func 66) #[] #[.pointer (some ⟨W.heap.size + 1, 0, none⟩)]] w2
        fun e W' => e = .returned (leastV (leastF (fun c => letsB l1 (pk c)) (fun c => letsB l2 (pk c)) 16384)) ∧ RowKit.Below w2.heap.size w2 W') := hide (fun w2 hw2 hcc1 hcc2 => by
    have hs2 : W.heap.size + 2 ≤ w2.heap.size := by have := hw2.size; rw [HSZ.out] at this; exact this
    have hc : ∀ w', RowKit.Below w2.heap.size w2 w' → RowKit.Below W.heap.size W w' ∧ W.heap.size + 2 ≤ w'.heap.size ∧ w'.cell? ⟨W.heap.size, 0, none⟩ = some (.slice ad1 n1 c1) ∧ w'.cell? ⟨W.heap.size + 1, 0, none⟩ = some (.slice ad2 n2 c2) := fun w' hw' => by
      have hww := hw2.trans (hw'.mono hs2)
      have := hw'.size
      exact ⟨HB0.out.trans (hww.mono (by omega)), by omega, HX.out w' hww⟩
    refine least_walk w2 _ _ _ _ _ _ hcc1 hcc2 (hide fun c w' hcc hw' => ?_) (hide fun c w' hcc hw' => ?_)
    · obtain ⟨hW, hs, y0, y1⟩ := hc w' hw'
      exact drClos1_walk w' W.heap.size l1 ad1 n1 c1 c hcc (by omega) (by omega) y0 (HL.out.1.below hW hW.size)
    · obtain ⟨hW, hs, y0, y1⟩ := hc w' hw'
      exact drClos2_walk w' (W.heap.size + 1) l2 ad2 n2 c2 c hcc (by omega) (by omega) y1 (HL.out.2.below hW hW.size))
  have hcc1 : ∀ (args : Array Value) (w : World), (callFunc 64 args).run Try.prog w = .ok (.enter 64 args) w := fun args w => by go_simp
  have hcc2 : ∀ (args : Array Value) (w : World), (callFunc 66 args).run Try.prog w = .ok (.enter 66 args) w := fun args w => by go_simp
  have HCC := hide (And.intro hcc1 hcc2)
  clear hcc1 hcc2
  obtain ⟨r, hr⟩ : ∃ r, leastF (fun c => letsB l1 (pk c)) (fun c => letsB l2 (pk c)) 16384 = r := ⟨_, rfl⟩
  rw [hr] at HLS ⊢
  clear hr
  rcases r with _ | ⟨c, k⟩
  · unfold drV drErr
    have hs1 := hb.size
    have HBa := hide (hb.alloc hb.size (.cells #[.int .i64 0, .int .i64 0, .int .i64 0, .int .i64 0] 29))
    have HXa := hide (PBox.new w1 0 0 0 0 29)
    have hpl : w1.heap.size < (w1.alloc (.cells #[.int .i64 0, .int .i64 0, .int .i64 0, .int .i64 0] 29)).heap.size := by simp
    have hw1 : W.heap.size + 2 ≤ w1.heap.size := by rw [← HSZ.out]; exact hs1
    obtain ⟨y0, y1⟩ := HX.out _ (HSZ.out ▸ HBa.out)
    clear hb hs1
    go_wp2_with (go_at_call 48; refine (inR_is _ hin).mono ?_; rintro e w' ⟨rfl, rfl⟩)
    refine (HLS.out _ (HSZ.out ▸ HBa.out) HCC.out.1 HCC.out.2).mono ?_
    generalize w1.alloc _ = w2 at *
    rintro e w3 ⟨rfl, hb⟩
    unfold leastV
    have HBf := hide (HB0.out.trans ((HBa.out.trans (hb.mono HBa.out.size)).mono HB0.out.size))
    have hs3 := hb.size
    have HX3 := hide (HXa.out.below hb hpl)
    clear hb HXa HBa y0 y1
    generalize w1.heap.size = N at *
    have hN3 : N < w3.heap.size := by omega
    have hNe : N ≠ w3.heap.size := by omega
    have p0 := fun ob => (World.cell?_alloc_lt w3 ob ⟨N, 0, none⟩ hN3).trans HX3.out.1
    have p1 := fun ob => (World.cell?_alloc_lt w3 ob ⟨N, 1, none⟩ hN3).trans HX3.out.2.1
    have p2 := fun ob => (World.cell?_alloc_lt w3 ob ⟨N, 2, none⟩ hN3).trans HX3.out.2.2.1
    have p3 := fun ob => (World.cell?_alloc_lt w3 ob ⟨N, 3, none⟩ hN3).trans HX3.out.2.2.2.1
    go_wp2
    go_ret
    exact ⟨by simp, HBf.out.alloc HBf.out.size _⟩
  · obtain ⟨x0, x1, x2, x3, hpv⟩ := packVal_ints c
    have HLS2 := HLS
    unfold leastV at HLS2
    clear HLS
    unfold drV
    simp only [hpv] at HLS2 ⊢
    clear hpv
    have hs1 := hb.size
    have HBa := hide (hb.alloc hb.size (.cells #[.int .i64 x0, .int .i64 x1, .int .i64 x2, .int .i64 x3] 29))
    have HXa := hide (PBox.new w1 x0 x1 x2 x3 29)
    have hpl : w1.heap.size < (w1.alloc (.cells #[.int .i64 x0, .int .i64 x1, .int .i64 x2, .int .i64 x3] 29)).heap.size := by simp
    have hw1 : W.heap.size + 2 ≤ w1.heap.size := by rw [← HSZ.out]; exact hs1
    obtain ⟨y0, y1⟩ := HX.out _ (HSZ.out ▸ HBa.out)
    clear hb hs1
    have HLS := HLS2
    clear HLS2
    go_wp2_with (go_at_call 48; refine (inR_is _ hin).mono ?_; rintro e w' ⟨rfl, rfl⟩)
    refine (HLS.out _ (HSZ.out ▸ HBa.out) HCC.out.1 HCC.out.2).mono ?_
    generalize w1.alloc _ = w2 at *
    rintro e w3 ⟨rfl, hb⟩
    have HBf := hide (HB0.out.trans ((HBa.out.trans (hb.mono HBa.out.size)).mono HB0.out.size))
    have hs3 := hb.size
    have HX3 := hide (HXa.out.below hb hpl)
    clear hb HXa HBa y0 y1
    generalize w1.heap.size = N at *
    have hN3 : N < w3.heap.size := by omega
    have hNe : N ≠ w3.heap.size := by omega
    have p0 := fun ob => (World.cell?_alloc_lt w3 ob ⟨N, 0, none⟩ hN3).trans HX3.out.1
    have p1 := fun ob => (World.cell?_alloc_lt w3 ob ⟨N, 1, none⟩ hN3).trans HX3.out.2.1
    have p2 := fun ob => (World.cell?_alloc_lt w3 ob ⟨N, 2, none⟩ hN3).trans HX3.out.2.2.1
    have p3 := fun ob => (World.cell?_alloc_lt w3 ob ⟨N, 3, none⟩ hN3).trans HX3.out.2.2.2.1
    go_wp2
    go_ret
    exact ⟨by simp, HBf.out.alloc HBf.out.size _⟩

set_option maxRecDepth 100000 in
theorem differRules_lifted (os : Os) (started : os.Started) (H : Type) (enc : TypeId × Value → H) :
    ReturnsInHanded {} Try.checked os 13 .any (Rows.differRulesSpec.pre6 enc Try.prog Try.f13 Rows.differRulesRow.domain false) (Rows.differRulesSpec.post enc Try.prog Try.f13 false true false false) :=
  law_lifted (C := Try.checked) (tb := 4) Try.own started (by kernel_rfl) Try.func13 Try.laidOut (by kernel_rfl) rfl (by kernel_rfl) Try.underlying4
    (fun ds h => by
      match ds, h with
      | [_, _, _], _ => exact ⟨rfl, rfl, rfl⟩)
    (ChangeSpec.witness6 (enc := enc) (C := Try.checked) false ⟨#[], #[.slice none 0 0, .slice none 0 0, .int .i64 0], []⟩ 8 (by kernel_rfl) (by kernel_rfl) (by kernel_rfl) (by kernel_rfl))
    (fun W base args ds p hval0 hA0 hlt hsz => by
      have hval : ∀ (j : Nat) t v, Try.f13.params[j]? = some t → args[j]? = some v → Value.okWide Try.prog W .any base t v := hval0
      have hA : DataW.TrodAll enc Try.prog W 0 (fun _ => true) true Try.f13.params.toList args.toList ds p := hA0
      rw [Try.params13] at hA hval
      obtain ⟨v0, vs0, d0, ds0, p0, q0, hargs, rfl, rfl, h0, r0⟩ := args_cons hA
      obtain ⟨v1, vs1, d1, ds1, p1, q1, rfl, rfl, rfl, h1, r1⟩ := args_cons r0
      obtain ⟨v2, vs2, d2, ds2, p2, q2, rfl, rfl, rfl, h2, r2⟩ := args_cons r1
      obtain ⟨rfl, rfl, rfl⟩ := args_nil r2
      obtain rfl : args = #[v0, v1, v2] := arr_eq hargs
      obtain ⟨A, n, c, l, rfl, hnc, hcm, hl, _⟩ := open_rules (hval 0 _ v0 rfl rfl) h0
      obtain ⟨A', n', c', l', rfl, hnc', hcm', hl', _⟩ := open_rules (hval 1 _ v1 rfl rfl) h1
      obtain ⟨x, rfl, hx⟩ := open_i64 (hval 2 _ v2 rfl rfl) h2
      exact differRulesLaw_walk l l' A A' n n' c c' x W (Nat.le_trans hnc hcm) (Nat.le_trans hnc' hcm') hx hl hl')

theorem differRules_holds : Rows.DifferRulesSaid :=
  OpenClaim.holds_of_wide 13 Try.f13 rfl rfl rfl rfl rfl rfl rfl ⟨rfl, rfl, rfl, rfl, rfl⟩ rfl rfl rfl rfl rfl (by kernel_rfl) Try.func13 (by kernel_rfl)
    (of_decide_eq_true (by kernel_rfl)) (by unfold Func.isWrapper; first | (rw [if_pos (by decide +kernel)]; kernel_rfl) | (rw [if_neg (by decide +kernel)]; exact ⟨rfl, rfl⟩))
    (fun os started H enc _ => differRules_lifted os started H enc)
end Go.Proofs.Ytoanimmlpfchjaa
