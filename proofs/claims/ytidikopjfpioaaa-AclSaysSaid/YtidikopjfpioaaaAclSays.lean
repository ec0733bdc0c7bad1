/- AclSays: Check and Lets answer what the document says; Build tells the function of just those packets, Dead the rules without which they are the same. No condition. -/
import Derived.Test.YtidikopjfpioaaaNeedless
import Derived.Test.YtidikopjfpioaaaOpenSl
set_option linter.unusedVariables false
set_option linter.unusedSimpArgs false
namespace Go.Proofs.Ytidikopjfpioaaa
open Go.ChangeShapes Go.WideShapes Go.ChangeAt Go.RowKit Go.Maps Bdd

theorem DeadTo.same {l : List RuleV} {k : Nat} {d e : List Nat} (h1 : DeadTo l k d) (h2 : DeadTo l k e) : d = e := by
  have hD : ∀ i, i < l.length → ((fun i => @decide (aclF (l.eraseIdx i) = aclF l) (Classical.propDecidable _)) i = true ↔ aclF (l.eraseIdx i) = aclF l) := fun i _ => by simp
  rw [h1 _ hD, h2 _ hD]
theorem DeadTo.lt {l : List RuleV} {k : Nat} {d : List Nat} (h : DeadTo l k d) : (∀ x ∈ d, x < k) ∧ d.length ≤ k := by
  have hD : ∀ i, i < l.length → ((fun i => @decide (aclF (l.eraseIdx i) = aclF l) (Classical.propDecidable _)) i = true ↔ aclF (l.eraseIdx i) = aclF l) := fun i _ => by simp
  rw [h _ hD]
  refine ⟨fun x hx => ?_, ?_⟩
  · simpa using (List.mem_filter.1 hx).1
  · have := List.length_filter_le (fun i => @decide (aclF (l.eraseIdx i) = aclF l) (Classical.propDecidable _)) (List.range k)
    simpa using this

set_option maxRecDepth 100000 in
theorem aclClos_walk (w : World) (kl : Nat) (l : List RuleV) (A : Option Addr) (n cp c : Nat) (hc : c < 16384) (hn : n ≤ 9223372036854775807) (hkl : kl < w.heap.size)
    (x0 : w.cell? ⟨kl, 0, none⟩ = some (.slice A n cp)) (hl : RulesAt w w.heap.size A n l) :
    Calls Try.prog 40 (#[packVal c] ++ #[.pointer (some ⟨kl, 0, none⟩)]) w fun e W' => e = .returned (.bool (letsB l (pk c))) ∧ RowKit.Below w.heap.size w W' := by
  have hne1 : kl ≠ w.heap.size := by omega
  show Calls Try.prog 40 #[packVal c, .pointer (some ⟨kl, 0, none⟩)] w _
  have HO := hide (fun w1 (hb : RowKit.Below w.heap.size w w1) => refLets_any l A n cp (pk c) w1 hn (hl.below hb hb.size))
  have hz : ∀ o, RowKit.Below w.heap.size w (w.alloc o) := fun o => (RowKit.Below.refl _ _).alloc (Nat.le_refl _) _
  clear hl
  rw [pk_val]
  generalize pk c = P at *
  go_enter Try.func40, Try.ntmps40
  go_wp2_with fail
  refine (HO.out _ (hz _)).mono ?_
  rintro e w1 ⟨rfl, hb1⟩
  have HB := hide ((hz _).trans (hb1.mono (by simp)))
  clear hb1 hz x0
  go_wp2
  go_ret
  exact ⟨rfl, HB.out⟩

set_option maxRecDepth 100000 in
set_option maxHeartbeats 8000000 in
theorem aclSays_walk (l : List RuleV) (A : Option Addr) (n c : Nat) (p : P4) (W : World) (hnc : n ≤ c) (hcm : c ≤ maxLen) (hp : p.ok) (hl : RulesAt W W.heap.size A n l) :
    Calls Try.prog 6 #[.slice A n c, .agg #[.int .i64 p.src, .int .i64 p.dst, .int .i64 p.sport, .int .i64 p.dport]] W fun e W' => e = .returned (.bool true) ∧ RowKit.Below W.heap.size W W' := by
  unfold maxLen at hcm
  obtain ⟨W0, hW0⟩ : ∃ W0, W0 = (W.alloc (.cells #[.slice A n c] 27)).alloc (.cells #[.int .i64 p.src, .int .i64 p.dst, .int .i64 p.sport, .int .i64 p.dport] 42) := ⟨_, rfl⟩
  have HB0 := hide (show RowKit.Below W.heap.size W W0 from by rw [hW0]; exact ((RowKit.Below.refl _ _).alloc (Nat.le_refl _) _).alloc (by simp) _)
  have HSZ := hide (show W0.heap.size = W.heap.size + 2 from by rw [hW0]; simp)
  have HQ := hide (fun (w' : World) (hb : RowKit.Below W0.heap.size W0 w') => show w'.cell? ⟨W.heap.size, 0, none⟩ = some (.slice A n c) ∧ PackAt w' (W.heap.size + 1) p ∧ RulesAt w' w'.heap.size A n l ∧ RowKit.Below W.heap.size W w' ∧ W.heap.size + 2 ≤ w'.heap.size from by
    have h1 := HB0.out.trans (hb.mono (by rw [HSZ.out]; omega))
    have h2 := hb.size
    rw [HSZ.out] at h2
    refine ⟨(hb.cell (p := ⟨W.heap.size, 0, none⟩) (by rw [HSZ.out]; show W.heap.size < _; omega)).trans (by rw [hW0]; simp), PackAt.below (w := W0) (by rw [hW0]; exact ⟨by simp, by simp, by simp, by simp⟩) hb (by rw [HSZ.out]; omega), hl.below h1 h1.size, h1, h2⟩)
  have HP := hide hp
  have HOK := hide hl.2.1
  have HLEN := hide hl.1
  clear hl hp
  have HN : ∀ w1, Hid (Calls Try.prog 24 #[.int .i64 14, .int .i64 40000] w1 (NewP w1 14 40000)) := fun w1 => hide (new_walk w1 14 40000 (by omega) (by omega) (by omega) (by omega))
  go_enter Try.func6, Try.ntmps6
  by_cases h8 : 8 < n
  · go_wp2
    rw [← hW0]
    refine wp_region_abs (by kernel_rfl) (by kernel_rfl) ?_
    intro T hT gt hg hgi
    have HGT := hide hg
    have HGI := hide hgi
    have hlt : W.heap.size < W0.heap.size := by rw [HSZ.out]; omega
    have k0 := fun t => (HQ.out _ (HGT.out t)).1
    have k1 := fun t => (HQ.out _ (HGT.out t)).2.1.1
    have k2 := fun t => (HQ.out _ (HGT.out t)).2.1.2.1
    have k3 := fun t => (HQ.out _ (HGT.out t)).2.1.2.2.1
    have k4 := fun t => (HQ.out _ (HGT.out t)).2.1.2.2.2
    have HC := hide (fun t => aclCheck_walk A n c (gt t))
    rw [if_pos h8] at HC
    have HL1 := hide (fun t => lets_walk l A n c p (gt t) (by omega) HP.out (HQ.out _ (HGT.out t)).2.2.1)
    have HL2 := hide (fun t => refLets_any l A n c p (gt t) (by omega) (HQ.out _ (HGT.out t)).2.2.1)
    clear hg hgi hlt
    generalize letsB l p = LB at *
    repeat (go_big_quiet_step (first | (go_at_call 34; exact inAbsSame (HC.out _)) | (go_at_call 35; exact inAbs HGT.out HGI.out (HL1.out _)) | (go_at_call 36; exact inAbs HGT.out HGI.out (HL2.out _))))
    refine wpQuiet_nil ?_
    intro _ hw'
    obtain ⟨t, rfl⟩ := hw'
    have HB1 := hide (HGT.out t)
    generalize gt t = w1 at *
    clear HC HL1 HL2 k0 k1 k2 k3 k4 HGT HGI
    go_wp2_with fail
    refine (HN _).out.mono ?_
    rintro e wa ⟨g, nb, kb, ib, rfl, ha, hb⟩
    have HBa := hide (HB1.out.trans (hb.mono HB1.out.size))
    have HAa := hide ha
    have HS1 := hide HB1.out.size
    clear ha hb HN
    have x0 := (HQ.out wa HBa.out).1
    go_wp2_with fail
    refine (aclBuild_large _ _ _ _ _ h8).mono ?_
    rintro e w2 ⟨rfl, rfl⟩
    go_wp2_with fail
    refine (dead_large _ _ _ _ _ h8).mono ?_
    rintro e w3 ⟨rfl, rfl⟩
    go_wp2
    go_ret
    exact ⟨rfl, (HQ.out _ HBa.out).2.2.2.1⟩
  · go_wp2
    rw [← hW0]
    refine wp_region_abs (by kernel_rfl) (by kernel_rfl) ?_
    intro T hT gt hg hgi
    have HGT := hide hg
    have HGI := hide hgi
    have hlt : W.heap.size < W0.heap.size := by rw [HSZ.out]; omega
    have k0 := fun t => (HQ.out _ (HGT.out t)).1
    have k1 := fun t => (HQ.out _ (HGT.out t)).2.1.1
    have k2 := fun t => (HQ.out _ (HGT.out t)).2.1.2.1
    have k3 := fun t => (HQ.out _ (HGT.out t)).2.1.2.2.1
    have k4 := fun t => (HQ.out _ (HGT.out t)).2.1.2.2.2
    have HC := hide (fun t => aclCheck_walk A n c (gt t))
    rw [if_neg h8] at HC
    have HL1 := hide (fun t => lets_walk l A n c p (gt t) (by omega) HP.out (HQ.out _ (HGT.out t)).2.2.1)
    have HL2 := hide (fun t => refLets_any l A n c p (gt t) (by omega) (HQ.out _ (HGT.out t)).2.2.1)
    clear hg hgi hlt
    generalize letsB l p = LB at *
    repeat (go_big_quiet_step (first | (go_at_call 34; exact inAbsSame (HC.out _)) | (go_at_call 35; exact inAbs HGT.out HGI.out (HL1.out _)) | (go_at_call 36; exact inAbs HGT.out HGI.out (HL2.out _))))
    refine wpQuiet_nil ?_
    intro _ hw'
    obtain ⟨t, rfl⟩ := hw'
    have HB1 := hide (HGT.out t)
    generalize gt t = w1 at *
    clear HC HL1 HL2 k0 k1 k2 k3 k4 HGT HGI
    go_wp2_with fail
    refine (HN _).out.mono ?_
    rintro e wa ⟨g, nb, kb, ib, rfl, ha, hb⟩
    have HBa := hide (HB1.out.trans (hb.mono HB1.out.size))
    have HAa := hide ha
    have HS1 := hide HB1.out.size
    clear ha hb HN
    have x0 := (HQ.out wa HBa.out).1
    have HS0 := hide (BS.refl HAa.out rfl (fun _ => True))
    have HBd := hide (aclBuild_gen HAa.out rfl (Nat.le_refl 14) l A n c (by omega) HLEN.out (fun w' hf => (HQ.out _ (HBa.out.trans ((HAa.out.frmBelow hf).mono HS1.out))).2.2.1) (fun _ => True) (fun _ _ _ _ => trivial) (fun _ _ _ => trivial))
    go_wp2_with fail
    refine HBd.out.mono ?_
    clear HBd x0
    rintro e w2 hbp
    obtain ⟨nb2, cap2, A2, K2, T2, hst, hx2, hres⟩ := HS0.out.step HAa.out hbp
    have HS2 := hide hst
    have HB2 := hide (HBa.out.trans ((hst.belowB HAa.out).mono HS1.out))
    clear hbp hst hx2 HS0
    have HD2 := hide (dead_walk HS2.out.ar HS2.out.nf (by rw [HS2.out.ext.vars]; exact Nat.le_refl 14) l A n c (by omega) HLEN.out (fun w' hf => (HQ.out _ (HB2.out.trans ((HS2.out.ar.frmBelow hf).mono HS1.out))).2.2.1) (fun _ => True) (fun _ _ _ _ => trivial) (fun _ _ _ => trivial) (fun _ _ _ _ => trivial))
    have x0 := (HQ.out w2 HB2.out).1
    rcases hres with ⟨f, rfl, hisf⟩ | ⟨rfl, hfull⟩
    case inr =>
      clear hfull
      go_wp2_with fail
      refine HD2.out.mono ?_
      clear HD2 x0
      rintro e w3 ⟨nb3, cap3, A3, K3, T3, hs3, hres3⟩
      have HS3 := hide hs3
      have HB3 := hide (HB2.out.trans ((hs3.belowB HS2.out.ar).mono HS1.out))
      clear hs3
      rcases hres3 with ⟨v, dl, rfl, hown, hdl⟩ | ⟨rfl, hfull⟩
      · clear hown hdl
        go_wp2
        go_ret
        exact ⟨rfl, (HQ.out _ HB3.out).2.2.2.1⟩
      · clear hfull
        go_wp2
        go_ret
        exact ⟨rfl, (HQ.out _ HB3.out).2.2.2.1⟩
    have HF2 := hide hisf
    clear hisf
    go_wp2_with fail
    refine HD2.out.mono ?_
    clear HD2 x0
    rintro e w3 ⟨nb3, cap3, A3, K3, T3, hs3, hres3⟩
    have HS3 := hide hs3
    have HB3 := hide (HB2.out.trans ((hs3.belowB HS2.out.ar).mono HS1.out))
    clear hs3
    rcases hres3 with ⟨v, dl, rfl, hown, hdl⟩ | ⟨rfl, hfull⟩
    case inr =>
      clear hfull
      go_wp2
      go_ret
      exact ⟨rfl, (HQ.out _ HB3.out).2.2.2.1⟩
    rw [HLEN.out] at hdl
    obtain ⟨hdlt, hdn⟩ := hdl.lt
    obtain ⟨A4, c4, rfl, hc4, hi4⟩ := ints_of_own hown (fun x hx => by have := hdlt x hx; omega)
    have HI4 := hide hi4
    have HDL := hide hdl
    have HDT := hide hdlt
    clear hown hdl hdlt hi4 hc4
    have HF3 := hide (HF2.out.ext HS2.out.inv HS3.out.ext)
    have HH := hide (held_walk HS3.out.ar (by rw [HS3.out.ext.vars, HS2.out.ext.vars]; rfl) f 40 HF3.out.1 #[.pointer (some ⟨W.heap.size, 0, none⟩)] (fun c => letsB l (pk c)) (fun c hc => by rw [HF3.out.2]; exact aclF_lets l HOK.out c hc) (fun args w => by go_simp) (hide (fun cc w' hcc hw' => by
      obtain ⟨y0, _, y2, _, y4⟩ := HQ.out w' (HB3.out.trans (hw'.mono HB3.out.size))
      exact aclClos_walk w' W.heap.size l A n c cc hcc (by omega) (by omega) y0 y2)))
    go_wp2_with fail
    refine HH.out.mono ?_
    clear HH
    rintro e w4 ⟨rfl, hb⟩
    have HB4 := hide (HB3.out.trans (hb.mono HB3.out.size))
    have HI5 := hide (HI4.out.below hb hb.size)
    clear hb HI4
    have x0 := (HQ.out w4 HB4.out).1
    have HNL := hide (needless_walk l A n c w4 (by omega) hnc (by omega) (HQ.out w4 HB4.out).2.2.1)
    go_wp2_with fail
    refine HNL.out.mono ?_
    clear HNL x0
    rintro e w5 ⟨v5, dl5, rfl, hown5, hdl5, hb5⟩
    obtain rfl : dl5 = dl := hdl5.same HDL.out
    obtain ⟨A6, c6, rfl, hc6, hi6⟩ := ints_of_own hown5 (fun x hx => by have := HDT.out x hx; omega)
    have HB5 := hide (HB4.out.trans (hb5.mono HB4.out.size))
    have HEQ := hide (equal_yes (dl5.map fun (k : Nat) => (k : Int)) A4 A6 dl5.length c4 c6 w5 (by omega) (HI5.out.below hb5 hb5.size) hi6)
    clear hown5 hdl5 hb5 hi6 hc6
    generalize dl5.length = m at *
    go_wp2_with fail
    refine HEQ.out.mono ?_
    clear HEQ
    rintro e w6 ⟨rfl, hb⟩
    have HB6 := hide (HB5.out.trans (hb.mono HB5.out.size))
    clear hb
    go_wp2
    go_ret
    exact ⟨rfl, (HQ.out _ HB6.out).2.2.2.1⟩

set_option maxRecDepth 100000 in
theorem aclSays_lifted (os : Os) (started : os.Started) (H : Type) (enc : TypeId × Value → H) :
    ReturnsInHanded {} Try.checked os 6 .any (Rows.aclSaysSpec.pre6 enc Try.prog Try.f6 Rows.aclSaysRow.domain false) (Rows.aclSaysSpec.post enc Try.prog Try.f6 false true false false) :=
  law_lifted (C := Try.checked) (tb := 4) Try.own started (by kernel_rfl) Try.func6 Try.laidOut (by kernel_rfl) rfl (by kernel_rfl) Try.underlying4
    (fun ds h => by
      match ds, h with
      | [_, _], _ => exact ⟨rfl, rfl, rfl⟩)
    (ChangeSpec.witness6 (enc := enc) (C := Try.checked) false ⟨#[], #[.slice none 0 0, .agg #[.int .i64 0, .int .i64 0, .int .i64 0, .int .i64 0]], []⟩ 8 (by kernel_rfl) (by kernel_rfl) (by kernel_rfl) (by kernel_rfl))
    (fun W base args ds p hval0 hA0 hlt hsz => by
      have hval : ∀ (j : Nat) t v, Try.f6.params[j]? = some t → args[j]? = some v → Value.okWide Try.prog W .any base t v := hval0
      have hA : DataW.TrodAll enc Try.prog W 0 (fun _ => true) true Try.f6.params.toList args.toList ds p := hA0
      rw [Try.params6] at hA hval
      obtain ⟨v0, vs0, d0, ds0, p0, q0, hargs, rfl, rfl, h0, r0⟩ := args_cons hA
      obtain ⟨v1, vs1, d1, ds1, p1, q1, rfl, rfl, rfl, h1, r1⟩ := args_cons r0
      obtain ⟨rfl, rfl, rfl⟩ := args_nil r1
      obtain rfl : args = #[v0, v1] := arr_eq hargs
      obtain ⟨A, n, c, l, rfl, hnc, hcm, hl, _⟩ := open_rules (hval 0 _ v0 rfl rfl) h0
      obtain ⟨x, y, z, u, rfl, hx, hy, hz, hu⟩ := open_packet (hval 1 _ v1 rfl rfl) h1
      exact aclSays_walk l A n c ⟨x, y, z, u⟩ W hnc hcm ⟨hx, hy, hz, hu⟩ hl)

theorem aclSays_holds : Rows.AclSaysSaid :=
  OpenClaim.holds_of_wide 6 Try.f6 rfl rfl rfl rfl rfl rfl rfl ⟨rfl, rfl, rfl, rfl, rfl⟩ rfl rfl rfl rfl rfl (by kernel_rfl) Try.func6 (by kernel_rfl)
    (of_decide_eq_true (by kernel_rfl)) (by unfold Func.isWrapper; first | (rw [if_pos (by decide +kernel)]; kernel_rfl) | (rw [if_neg (by decide +kernel)]; exact ⟨rfl, rfl⟩))
    (fun os started H enc _ => aclSays_lifted os started H enc)
end Go.Proofs.Ytidikopjfpioaaa
