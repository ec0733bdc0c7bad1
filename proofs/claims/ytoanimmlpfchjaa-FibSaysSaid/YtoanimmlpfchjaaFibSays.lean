/- FibSays: Check and Out answer what the document says; Build tells the function of just those packets. No condition. -/
import Derived.Test.YtoanimmlpfchjaaFibBuild
import Derived.Test.YtoanimmlpfchjaaRefOut
set_option linter.unusedVariables false
set_option linter.unusedSimpArgs false
namespace Go.Proofs.Ytoanimmlpfchjaa
open Go.ChangeShapes Go.WideShapes Go.ChangeAt Go.RowKit Go.Maps Bdd

theorem dst_has (l : List RouteV) (port : Int) (c : Nat) (hc : c < 16384) : outs (partL 65535 (setTo (dstB l port) 16) 255 255) (asgOf c) = dstB l port (c / 64 % 16) := by
  rw [outs_has _ _ _ _ c hc]
  have h16 : ∀ i : Fin 16, Nat.testBit 65535 i.val = true := by decide +kernel
  have h8 : ∀ i : Fin 8, Nat.testBit 255 i.val = true := by decide +kernel
  have a := h16 ⟨c / 1024, by omega⟩
  have b := h8 ⟨c / 8 % 8, by omega⟩
  have d := h8 ⟨c % 8, by omega⟩
  simp only at a b d
  unfold hasAllB
  rw [a, b, d, setTo_bit]
  have : c / 64 % 16 < 16 := by omega
  simp [this]

set_option maxRecDepth 100000 in
set_option maxHeartbeats 4000000 in
theorem fibClos_walk (w : World) (kl kp : Nat) (l : List RouteV) (A : Option Addr) (n cp : Nat) (port : Int) (c : Nat) (hc : c < 16384) (hn : n ≤ 9223372036854775807) (hkl : kl < w.heap.size) (hkp : kp < w.heap.size)
    (x0 : w.cell? ⟨kl, 0, none⟩ = some (.slice A n cp)) (x1 : w.cell? ⟨kp, 0, none⟩ = some (.int .i64 port)) (hl : SlAt RouteV.cells 3 w w.heap.size A n l) (hok : ∀ r ∈ l, r.ok) :
    Calls Try.prog 47 (#[packVal c] ++ #[.pointer (some ⟨kl, 0, none⟩), .pointer (some ⟨kp, 0, none⟩)]) w fun e W' => e = .returned (.bool (dstB l port (c / 64 % 16))) ∧ RowKit.Below w.heap.size w W' := by
  have hne1 : kl ≠ w.heap.size := by omega
  have hne2 : kp ≠ w.heap.size := by omega
  show Calls Try.prog 47 #[packVal c, .pointer (some ⟨kl, 0, none⟩), .pointer (some ⟨kp, 0, none⟩)] w _
  have HO := hide (fun w1 (hb : RowKit.Below w.heap.size w w1) => refOut_any l A n cp ((c / 64 % 16 : Nat) : Int) w1 hn (hl.below hb hb.size) hok)
  have hz : ∀ o, RowKit.Below w.heap.size w (w.alloc o) := fun o => (RowKit.Below.refl _ _).alloc (Nat.le_refl _) _
  have HD : Hid (dstB l port (c / 64 % 16) = (decide (0 ≤ (outF ((c / 64 % 16 : Nat) : Int) l).2) && ((outF ((c / 64 % 16 : Nat) : Int) l).1 == port))) := hide rfl
  clear hl hok
  unfold packVal
  rw [HD.out]
  generalize c / 64 % 16 = dd at *
  go_enter Try.func47, Try.ntmps47
  go_wp2_with fail
  refine (HO.out _ (hz _)).mono ?_
  rintro e w1 ⟨rfl, hb1⟩
  have hs := hb1.size
  have y1 : w1.cell? ⟨kp, 0, none⟩ = some (.int .i64 port) := (hb1.cell (p := ⟨kp, 0, none⟩) (by simp; omega)).trans ((World.cell?_alloc_lt _ _ _ (by show kp < _; omega)).trans x1)
  have HB := hide ((hz _).trans (hb1.mono (by simp)))
  clear hb1 hz x0 x1
  cases e1 : decide (0 ≤ (outF (dd : Int) l).2)
  · go_wp2
    go_ret
    exact ⟨ret_bool (by rw [e1]; rfl), HB.out⟩
  · go_wp2
    go_ret
    exact ⟨ret_bool (by rw [e1]; rfl), HB.out⟩

set_option maxRecDepth 100000 in
set_option maxHeartbeats 8000000 in
theorem fibSays_walk (l : List RouteV) (A : Option Addr) (n c : Nat) (d p : Int) (W : World) (hn : n ≤ maxLen) (hnc : n ≤ c) (hd : i64ok d) (hp : i64ok p) (hl : SlAt RouteV.cells 3 W W.heap.size A n l) (hok : ∀ r ∈ l, r.ok) :
    Calls Try.prog 10 #[.slice A n c, .int .i64 d, .int .i64 p] W fun e W' => e = .returned (.bool true) ∧ RowKit.Below W.heap.size W W' := by
  unfold maxLen at hn
  have HB0 := hide (show RowKit.Below W.heap.size W ((W.alloc (.cells #[.slice A n c] 41)).alloc (.cells #[.int .i64 p] 3)) from ((RowKit.Below.refl _ _).alloc (Nat.le_refl _) _).alloc (by simp) _)
  have HX : Hid (∀ w', RowKit.Below (W.heap.size + 2) ((W.alloc (.cells #[.slice A n c] 41)).alloc (.cells #[.int .i64 p] 3)) w' →
      w'.cell? ⟨W.heap.size, 0, none⟩ = some (.slice A n c) ∧ w'.cell? ⟨W.heap.size + 1, 0, none⟩ = some (.int .i64 p)) := hide (fun w' hb =>
    ⟨(hb.cell (p := ⟨W.heap.size, 0, none⟩) (by show W.heap.size < _; omega)).trans (by simp), (hb.cell (p := ⟨W.heap.size + 1, 0, none⟩) (by show W.heap.size + 1 < _; omega)).trans (by simp)⟩)
  have hsz : ((W.alloc (.cells #[.slice A n c] 41)).alloc (.cells #[.int .i64 p] 3)).heap.size = W.heap.size + 2 := by simp
  have HSZ := hide hsz
  have HR := hide (fun w1 (hb : RowKit.Below W.heap.size W w1) => routes_any l A n c w1 hnc (hl.below hb hb.size) hok)
  have HC := hide (fun w1 (hb : RowKit.Below W.heap.size W w1) => check22_any l A n c w1 hnc (hl.below hb hb.size) hok)
  have HO := hide (fun w1 (hb : RowKit.Below W.heap.size W w1) => out_any l A n c d w1 hn hd (hl.below hb hb.size) hok)
  have HRO := hide (fun w1 (hb : RowKit.Below W.heap.size W w1) => refOut_any l A n c d w1 hn (hl.below hb hb.size) hok)
  have HBad := hide (fun w1 gp (hb : RowKit.Below W.heap.size W w1) => fibBuild_bad (w := w1) gp l A n c p hnc (hl.below hb hb.size) hok)
  have HL := hide (And.intro hl hok)
  have HN : ∀ w1, Hid (Calls Try.prog 28 #[.int .i64 14, .int .i64 40000] w1 (NewP w1 14 40000)) := fun w1 => hide (new_walk w1 14 40000 (by omega) (by omega) (by omega) (by omega))
  clear hsz hl hok
  go_enter Try.func10, Try.ntmps10
  go_wp2_with fail
  refine (HR.out _ HB0.out).mono ?_
  rintro e w1 ⟨rfl, hb⟩
  have H1 := hide hb
  clear hb
  obtain ⟨x0, x1⟩ := HX.out w1 (HSZ.out ▸ H1.out)
  go_wp2_with fail
  refine (HO.out _ (HB0.out.trans (H1.out.mono HB0.out.size))).mono ?_
  rintro e w2 ⟨rfl, hb⟩
  have H2 := hide (H1.out.trans (hb.mono H1.out.size))
  clear hb H1 x0 x1
  obtain ⟨x0, x1⟩ := HX.out w2 (HSZ.out ▸ H2.out)
  go_wp2_with fail
  refine (HRO.out _ (HB0.out.trans (H2.out.mono HB0.out.size))).mono ?_
  rintro e w3 ⟨rfl, hb⟩
  have H3 := hide (H2.out.trans (hb.mono H2.out.size))
  clear hb H2 x0 x1
  obtain ⟨x0, x1⟩ := HX.out w3 (HSZ.out ▸ H3.out)
  go_wp2_with fail
  refine (HC.out _ (HB0.out.trans (H3.out.mono HB0.out.size))).mono ?_
  rintro e w4 ⟨rfl, hb⟩
  have H4 := hide (H3.out.trans (hb.mono H3.out.size))
  clear hb H3 x0 x1
  obtain ⟨x0, x1⟩ := HX.out w4 (HSZ.out ▸ H4.out)
  go_wp2_with fail
  refine (HN _).out.mono ?_
  rintro e w5 ⟨g, nb, kb, ib, rfl, ha, hb⟩
  have HA := hide ha
  have H5 := hide (H4.out.trans (hb.mono H4.out.size))
  have hbs := hb.size
  have hs4 := H4.out.size
  rw [HSZ.out] at hs4
  clear hb ha H4 x0 x1 HN
  obtain ⟨x0, x1⟩ := HX.out w5 (HSZ.out ▸ H5.out)
  by_cases hck : checkF l = 0
  case neg =>
    have hc1 : (checkF l != 0) = true := by simpa using hck
    go_wp2_with fail
    refine (HBad.out _ _ (HB0.out.trans (H5.out.mono HB0.out.size)) hck).mono ?_
    rintro e w6 ⟨rfl, hb⟩
    have H6 := hide (HB0.out.trans ((H5.out.trans (hb.mono H5.out.size)).mono HB0.out.size))
    clear hb
    go_wp2
    go_ret
    exact ⟨by simp, H6.out⟩
  have HB5 := hide (HB0.out.trans (H5.out.mono HB0.out.size))
  go_wp2_with fail
  refine (fibBuild_walk HA.out rfl (Nat.le_refl 14) l A n c p hn hnc (HL.out.1.below HB5.out HB5.out.size) HL.out.2 hck).mono ?_
  rintro e w6 ⟨nb2, cap2, A2, K2, T2, hx2, hf2, hp2, ha2, hn2, hm2, hres⟩
  rcases hres with ⟨f, rfl, hr2, hd2⟩ | ⟨rfl, hfull⟩
  case inr =>
    have := build_room hx2 (by omega) hp2
    have hmost : A2.most = 40000 := hx2.most
    omega
  have H6 := hide (H5.out.trans ((HA.out.frmBelow hm2).mono (by rw [HSZ.out]; exact hs4)))
  have HA2 := hide ha2
  have HD2 := hide (And.intro hr2 (And.intro hd2 hx2.vars))
  have hc1 : (checkF l != 0) = false := by simpa using hck
  clear hx2 hf2 hp2 ha2 hn2 hm2 hr2 hd2 x0 x1
  go_wp2_with fail
  refine (held_walk HA2.out HD2.out.2.2 f 47 HD2.out.1 #[.pointer (some ⟨W.heap.size, 0, none⟩), .pointer (some ⟨W.heap.size + 1, 0, none⟩)] (fun c => dstB l p (c / 64 % 16)) (fun c hc => by rw [HD2.out.2.1]; exact dst_has l p c hc) ?_ ?_).mono ?_
  · intro args w
    go_simp
  · intro cc w' hcc hw'
    have hbb := H6.out.trans (hw'.mono H6.out.size)
    have hbW := HB0.out.trans (hbb.mono HB0.out.size)
    have hsw := hbb.size
    rw [HSZ.out] at hsw
    obtain ⟨y0, y1⟩ := HX.out w' (HSZ.out ▸ hbb)
    exact fibClos_walk w' W.heap.size (W.heap.size + 1) l A n c p cc hcc hn (by omega) (by omega) y0 y1 (HL.out.1.below hbW hbW.size) HL.out.2
  rintro e w7 ⟨rfl, hb⟩
  have H7 := hide (HB0.out.trans ((H6.out.trans (hb.mono H6.out.size)).mono HB0.out.size))
  clear hb
  go_wp2
  go_ret
  exact ⟨by simp, H7.out⟩

set_option maxRecDepth 100000 in
theorem fibSays_lifted (os : Os) (started : os.Started) (H : Type) (enc : TypeId × Value → H) :
    ReturnsInHanded {} Try.checked os 10 .any (Rows.fibSaysSpec.pre6 enc Try.prog Try.f10 Rows.fibSaysRow.domain false) (Rows.fibSaysSpec.post enc Try.prog Try.f10 false true false false) :=
  law_lifted (C := Try.checked) (tb := 4) Try.own started (by kernel_rfl) Try.func10 Try.laidOut (by kernel_rfl) rfl (by kernel_rfl) Try.underlying4
    (fun ds h => by
      match ds, h with
      | [_, _, _], _ => exact ⟨rfl, rfl, rfl⟩)
    (ChangeSpec.witness6 (enc := enc) (C := Try.checked) false ⟨#[], #[.slice none 0 0, .int .i64 0, .int .i64 0], []⟩ 8 (by kernel_rfl) (by kernel_rfl) (by kernel_rfl) (by kernel_rfl))
    (fun W base args ds p hval0 hA0 hlt hsz => by
      have hval : ∀ (j : Nat) t v, Try.f10.params[j]? = some t → args[j]? = some v → Value.okWide Try.prog W .any base t v := hval0
      have hA : DataW.TrodAll enc Try.prog W 0 (fun _ => true) true Try.f10.params.toList args.toList ds p := hA0
      rw [Try.params10] at hA hval
      obtain ⟨v0, vs0, d0, ds0, p0, q0, hargs, rfl, rfl, h0, r0⟩ := args_cons hA
      obtain ⟨v1, vs1, d1, ds1, p1, q1, rfl, rfl, rfl, h1, r1⟩ := args_cons r0
      obtain ⟨v2, vs2, d2, ds2, p2, q2, rfl, rfl, rfl, h2, r2⟩ := args_cons r1
      obtain ⟨rfl, rfl, rfl⟩ := args_nil r2
      obtain rfl : args = #[v0, v1, v2] := arr_eq hargs
      obtain ⟨A, n, c, l, rfl, hnc, hcm, hl, hok, _⟩ := open_routes (hval 0 _ v0 rfl rfl) h0
      obtain ⟨x, rfl, hx⟩ := open_i64 (hval 1 _ v1 rfl rfl) h1
      obtain ⟨y, rfl, hy⟩ := open_i64 (hval 2 _ v2 rfl rfl) h2
      exact fibSays_walk l A n c x y W (Nat.le_trans hnc hcm) hnc hx hy hl hok)

theorem fibSays_holds : Rows.FibSaysSaid :=
  OpenClaim.holds_of_wide 10 Try.f10 rfl rfl rfl rfl rfl rfl rfl ⟨rfl, rfl, rfl, rfl, rfl⟩ rfl rfl rfl rfl rfl (by kernel_rfl) Try.func10 (by kernel_rfl)
    (of_decide_eq_true (by kernel_rfl)) (by unfold Func.isWrapper; first | (rw [if_pos (by decide +kernel)]; kernel_rfl) | (rw [if_neg (by decide +kernel)]; exact ⟨rfl, rfl⟩))
    (fun os started H enc _ => fibSays_lifted os started H enc)
end Go.Proofs.Ytoanimmlpfchjaa
