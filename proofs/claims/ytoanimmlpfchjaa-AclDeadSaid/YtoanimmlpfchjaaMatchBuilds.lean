/- MatchBuilds: the walk of the statement. -/
import Derived.Test.YtoanimmlpfchjaaMatchBuildsW
import Derived.Test.YtoanimmlpfchjaaFibLongestLaw
import Derived.WalkLawsBesides
set_option linter.unusedVariables false
set_option linter.unusedSimpArgs false
namespace Go.Proofs.Ytoanimmlpfchjaa
open Go.RowKit Go.Maps Bdd

theorem ArenaAt.frmBelow {w w' : World} {B g nb kb ib cap : Nat} {A : St} {K T : Tri → Option Value} (h : ArenaAt w B g nb kb ib cap A K T) (hf : Frm (Fp g nb kb ib) w w') : RowKit.Below B w w' := by
  obtain ⟨l1, l2, l3, l4, l5⟩ := h.lts
  obtain ⟨m1, m2, m3⟩ := h.lo
  exact hf.below (by omega) (fun i hi => by rcases hi with e | e | e | e <;> omega)

set_option maxRecDepth 100000 in
set_option maxHeartbeats 8000000 in
theorem mb_walk (W : World) (s d p q : Nat) (vars : Int) (hs : s < 65536) (hd : d < 65536) (hp : p < 256) (hq : q < 256) :
    Calls Try.prog 8 #[.agg #[.int .u16 s, .int .u16 d, .int .u8 p, .int .u8 q], .int .i64 vars] W fun e W' => e = .returned (.bool true) ∧ RowKit.Below W.heap.size W W' := by
  have hbx := heap_alloc_new W (.cells #[.int .u16 s, .int .u16 d, .int .u8 p, .int .u8 q] 27)
  have HB0 := hide (show RowKit.Below W.heap.size W (W.alloc (.cells #[.int .u16 s, .int .u16 d, .int .u8 p, .int .u8 q] 27)) from (RowKit.Below.refl _ _).alloc (Nat.le_refl _) _)
  have hsz : (W.alloc (.cells #[.int .u16 s, .int .u16 d, .int .u8 p, .int .u8 q] 27)).heap.size = W.heap.size + 1 := by simp
  have HX : Hid (∀ w', RowKit.Below (W.heap.size + 1) (W.alloc (.cells #[.int .u16 s, .int .u16 d, .int .u8 p, .int .u8 q] 27)) w' →
      w'.cell? ⟨W.heap.size, 0, none⟩ = some (.int .u16 s) ∧ w'.cell? ⟨W.heap.size, 1, none⟩ = some (.int .u16 d) ∧ w'.cell? ⟨W.heap.size, 2, none⟩ = some (.int .u8 p) ∧ w'.cell? ⟨W.heap.size, 3, none⟩ = some (.int .u8 q)) := hide (fun w' hb => by
    have hb2 := (hb.block W.heap.size (by omega)).trans hbx
    exact ⟨by rw [cell_of_row _ _ _ _ _ _ hb2]; rfl, by rw [cell_of_row _ _ _ _ _ _ hb2]; rfl, by rw [cell_of_row _ _ _ _ _ _ hb2]; rfl, by rw [cell_of_row _ _ _ _ _ _ hb2]; rfl⟩)
  have HSZ := hide hsz
  clear hbx hsz
  have HN : ∀ w1, Hid (Calls Try.prog 28 #[.int .i64 14, .int .i64 40000] w1 (NewP w1 14 40000)) := fun w1 => hide (new_walk w1 14 40000 (by omega) (by omega) (by omega) (by omega))
  go_enter Try.func8, Try.ntmps8
  go_wp2_with fail
  refine (HN _).out.mono ?_
  rintro e wa ⟨g, nb, kb, ib, rfl, ha, hb⟩
  have HA1 := hide ha
  have HB1 := hide hb
  clear ha hb HN
  obtain ⟨x0, x1, x2, x3⟩ := HX.out wa (HSZ.out ▸ HB1.out)
  go_wp2_with fail
  refine (build_walk HA1.out rfl (Nat.le_refl 14) s d p q hs hd hp hq).mono ?_
  rintro e wb ⟨nb2, cap2, A2, K2, T2, hx2, hf2, hp2, ha2, hn2, hm2, hres⟩
  rcases hres with ⟨f, rfl, hr2, hd2⟩ | ⟨rfl, hfull⟩
  case inr =>
    have := build_room hx2 (by omega) hp2
    have hmost : A2.most = 40000 := hx2.most
    omega
  have HB2 := hide (HB1.out.trans ((HA1.out.frmBelow hm2).mono (Nat.le_refl _)))
  have HA2 := hide ha2
  have HD2 := hide (And.intro hr2 (And.intro hd2 hx2.vars))
  clear hx2 hf2 hp2 ha2 hn2 hm2 hr2 hd2 x0 x1 x2 x3
  go_wp2_with fail
  refine (held_walk HA2.out HD2.out.2.2 f 31 HD2.out.1 #[.pointer (some ⟨W.heap.size, 0, none⟩)] (fun c => hasAllB s d p q (c / 1024) (c / 64 % 16) (c / 8 % 8) (c % 8)) (fun c hc => by rw [HD2.out.2.1]; exact outs_has s d p q c hc) ?_ ?_).mono ?_
  · intro args w
    go_simp
  · intro c w' hc hw'
    have hbb := HSZ.out ▸ HB2.out.trans (hw'.mono HB2.out.size)
    obtain ⟨y0, y1, y2, y3⟩ := HX.out w' hbb
    exact clos_walk w' W.heap.size s d p q c hs hd hp hq hc (by have := hbb.size; rw [HSZ.out] at this; omega) y0 y1 y2 y3
  rintro e wc ⟨rfl, hb⟩
  have HB3 := hide (HB2.out.trans (hb.mono HB2.out.size))
  clear hb
  obtain ⟨x0, x1, x2, x3⟩ := HX.out wc (HSZ.out ▸ HB3.out)
  by_cases hbad : vars < 1 ∨ 16 < vars
  · go_wp2_with fail
    refine (new_bad wc vars 40 hbad).mono ?_
    rintro e wd ⟨rfl, hb⟩
    have HB4 := hide (HB0.out.trans (((HB3.out.trans (hb.mono HB3.out.size))).mono HB0.out.size))
    clear hb
    go_wp2
    go_ret
    exact ⟨rfl, HB4.out⟩
  · obtain ⟨v, rfl⟩ : ∃ v : Nat, vars = (v : Int) := ⟨vars.toNat, by omega⟩
    have hv1 : 1 ≤ v := by omega
    have hv2 : v ≤ 16 := by omega
    have HN2 : Hid (Calls Try.prog 28 #[.int .i64 v, .int .i64 40] wc (NewP wc v 40)) := hide (new_walk wc v 40 hv1 hv2 (by omega) (by omega))
    go_wp2_with fail
    refine HN2.out.mono ?_
    clear HN2
    rintro e wd ⟨g', nb', kb', ib', rfl, ha, hb⟩
    have HA4 := hide ha
    have HB4 := hide (HB3.out.trans (hb.mono HB3.out.size))
    have HBW := hide (hb.size)
    clear ha hb x0 x1 x2 x3
    obtain ⟨x0, x1, x2, x3⟩ := HX.out wd (HSZ.out ▸ HB4.out)
    by_cases h14 : v < 14
    · have h14' : decide ((v : Int) < 14) = true := by simp; omega
      have h14i : (v : Int) < 14 := by omega
      go_wp2_with fail
      refine (build_bad HA4.out h14 s d p q).mono ?_
      rintro e we ⟨rfl, hb⟩
      have HB5 := hide (HB0.out.trans (((HB4.out.trans (hb.mono HB4.out.size))).mono HB0.out.size))
      clear hb
      go_wp2
      go_ret
      exact ⟨rfl, HB5.out⟩
    · have h14' : decide ((v : Int) < 14) = false := by simp; omega
      go_wp2_with fail
      refine (build_walk HA4.out rfl (show 14 ≤ v by omega) s d p q hs hd hp hq).mono ?_
      rintro e we ⟨nb5, cap5, A5, K5, T5, hx5, hf5, hp5, ha5, hn5, hm5, hres⟩
      have HB5 := hide (HB0.out.trans (((HB4.out.trans ((HA4.out.frmBelow hm5).mono HB3.out.size))).mono HB0.out.size))
      clear hx5 hf5 hp5 ha5 hn5 hm5
      rcases hres with ⟨r, rfl, _, _⟩ | ⟨rfl, _⟩
      all_goals
        go_wp2
        go_ret
        exact ⟨rfl, HB5.out⟩

set_option maxRecDepth 100000 in
theorem matchBuilds_lifted (os : Os) (started : os.Started) (H : Type) (enc : TypeId × Value → H) :
    ReturnsInHanded {} Try.checked os 8 .any (Rows.matchBuildsSpec.pre6 enc Try.prog Try.f8 Rows.matchBuildsRow.domain false) (Rows.matchBuildsSpec.post enc Try.prog Try.f8 false true false false) :=
  law_lifted (C := Try.checked) (tb := 4) Try.own started (by kernel_rfl) Try.func8 Try.laidOut (by kernel_rfl) rfl (by kernel_rfl) Try.underlying4
    (fun ds h => by
      match ds, h with
      | [_, _], _ => exact ⟨rfl, rfl, rfl⟩)
    (ChangeSpec.witness6 (enc := enc) (C := Try.checked) false ⟨#[], #[.agg #[.int .u16 0, .int .u16 0, .int .u8 0, .int .u8 0], .int .i64 0], []⟩ 8 (by kernel_rfl) (by kernel_rfl) (by kernel_rfl) (by kernel_rfl))
    (fun W base args ds p hval0 hA0 hlt hsz => by
      have hval : ∀ (j : Nat) t v, Try.f8.params[j]? = some t → args[j]? = some v → Value.okWide Try.prog W .any base t v := hval0
      have hA : DataW.TrodAll enc Try.prog W 0 (fun _ => true) true Try.f8.params.toList args.toList ds p := hA0
      rw [Try.params8] at hA hval
      obtain ⟨v0, vs0, d0, ds0, p0, q0, hargs, rfl, rfl, h0, r0⟩ := args_cons hA
      obtain ⟨v1, vs1, d1, ds1, p1, q1, rfl, rfl, rfl, h1, r1⟩ := args_cons r0
      obtain ⟨rfl, rfl, rfl⟩ := args_nil r1
      obtain rfl : args = #[v0, v1] := arr_eq hargs
      obtain ⟨a, b, c, d, rfl, ha, hb, hc, hd⟩ := open_match (hval 0 _ v0 rfl rfl) h0
      obtain ⟨x, rfl, hx⟩ := open_i64 (hval 1 _ v1 rfl rfl) h1
      exact mb_walk W a b c d x ha hb hc hd)

theorem matchBuilds_holds : Rows.MatchBuildsSaid :=
  OpenClaim.holds_of_wide 8 Try.f8 rfl rfl rfl rfl rfl rfl rfl ⟨rfl, rfl, rfl, rfl, rfl⟩ rfl rfl rfl rfl rfl (by kernel_rfl) Try.func8 (by kernel_rfl)
    (of_decide_eq_true (by kernel_rfl)) (by unfold Func.isWrapper; first | (rw [if_pos (by decide +kernel)]; kernel_rfl) | (rw [if_neg (by decide +kernel)]; exact ⟨rfl, rfl⟩))
    (fun os started H enc _ => matchBuilds_lifted os started H enc)
end Go.Proofs.Ytoanimmlpfchjaa
