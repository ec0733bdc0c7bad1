/- RingWalks. -/
import Derived.Test.YtidikopjfpioaaaRefWalk
set_option linter.unusedVariables false
set_option linter.unusedSimpArgs false
namespace Go.Proofs.Ytidikopjfpioaaa
open Go.ChangeShapes Go.WideShapes Go.ChangeAt Go.RowKit

set_option maxRecDepth 100000 in
set_option maxHeartbeats 4000000 in
theorem equalPl_yes (l : List Pl) (A1 A2 : Option Addr) (n c1 c2 : Nat) (W : World) (hn : n ≤ 9223372036854775807) (h1 : SlAt plCells 2 W W.heap.size A1 n l) (h2 : SlAt plCells 2 W W.heap.size A2 n l) :
    Calls Try.prog 23 #[.slice A1 n c1, .slice A2 n c2] W fun e W' => e = .returned (.bool true) ∧ RowKit.Below W.heap.size W W' := by
  have H1 := hide h1
  have H2 := hide h2
  clear h1 h2
  go_enter Try.func23, Try.ntmps23
  go_wp2
  go_loopw [13] (fun i wr => ∃ k : Nat, k ≤ n ∧ i = .int .i64 k ∧ Hid (RowKit.Below W.heap.size W wr)) (fun i _ => n - (intOf i).toNat)
  case atStart => exact ⟨0, Nat.zero_le _, rfl, hide (RowKit.Below.refl _ _)⟩
  case round =>
    obtain ⟨k, hk, rfl, HB⟩ := hrel
    by_cases hlt : k < n
    · obtain ⟨z, hz⟩ : ∃ r, l[k]? = some r := ⟨_, List.getElem?_eq_getElem (by have := H1.out.1; omega)⟩
      obtain ⟨b, o, rfl, _, _⟩ := H1.out.2 (by omega)
      obtain ⟨b', o', rfl, _, _⟩ := H2.out.2 (by omega)
      obtain ⟨_, hg⟩ := (H1.out.below HB.out HB.out.size).get hz
      obtain ⟨_, hg'⟩ := (H2.out.below HB.out HB.out.size).get hz
      have q0 := hg 0 _ rfl
      have q1 := hg 1 _ rfl
      have q2 := hg' 0 _ rfl
      have q3 := hg' 1 _ rfl
      clear hg hg' hz
      obtain ⟨z1, z2⟩ := z
      rw [Nat.add_zero] at q0 q2
      go_wp2
      go_quiet (fail)
      go_wp2
      go_roundw
      case rel => exact ⟨k + 1, by omega, by go_num, hide (HB.out.trans (below_drew _ _ _))⟩
      case measure => simp [intOf]; omega
    · go_wp2
      go_ret
      exact ⟨rfl, HB.out⟩

section
variable {H : Type} {enc : TypeId × Value → H} {w : World} {base : Nat} {spare : Nat → Bool} {held : Bool} {r : Reach} {b0 : Nat}
theorem Try.cellsPlace : Try.prog.cellsOf 34 = 2 := by kernel_rfl
set_option maxRecDepth 100000 in
theorem open_place {v : Value} {d : DataW H} {p : List MemPlace} (hv : Value.okWide Try.prog w r b0 34 v) (h : DataW.Trod enc Try.prog w base spare held 34 v d p) : ∃ x y : Int, v = .agg #[.int .i64 x, .int .i64 y] ∧ i64ok x ∧ i64ok y := by
  obtain ⟨cs, rfl, hsz⟩ := okWide_struct Try.underlying34 hv
  obtain ⟨fuel, hf⟩ := h
  obtain ⟨xs, n', _, _, hlen, hxl, hf⟩ := DataW.trod_struct (cs := cs.toList) Try.underlying34 hf
  rw [Try.cellsPlace] at hlen
  obtain ⟨c0, c1, hcs⟩ : ∃ c0 c1, cs.toList = [c0, c1] := by
    match h : cs.toList, hlen with
    | [c0, c1], _ => exact ⟨c0, c1, rfl⟩
  rw [hcs] at hf
  have h0 := hf 0 _ rfl
  have h1 := hf 1 _ rfl
  obtain ⟨y0, e0⟩ := get_some (xs := xs) (i := 0) (by rw [hxl]; decide)
  obtain ⟨y1, e1⟩ := get_some (xs := xs) (i := 1) (by rw [hxl]; decide)
  rw [e0] at h0
  rw [e1] at h1
  simp [cellsI1] at h0 h1
  obtain ⟨a, rfl, ha⟩ := trod_i64 h0
  obtain ⟨b, rfl, hb⟩ := trod_i64 h1
  exact ⟨a, b, by rw [arr_eq hcs], ha, hb⟩
end

set_option maxRecDepth 100000 in
set_option maxHeartbeats 16000000 in
theorem ringWalks_walk (n : NetV) (X Y : Int) (p : P4) (W : World) (hn : NetAt W W.heap.size n) (hp : p.ok) (hX : i64ok X) (hY : i64ok Y) :
    Calls Try.prog 4 #[n.val, .agg #[.int .i64 X, .int .i64 Y], .agg #[.int .i64 p.src, .int .i64 p.dst, .int .i64 p.sport, .int .i64 p.dport]] W fun e W' => e = .returned (.bool true) ∧ RowKit.Below W.heap.size W W' := by
  have HNA := hide (fun (w' : World) (hb : RowKit.Below W.heap.size W w') => show NetAt w' w'.heap.size n from hn.below hb hb.size)
  have HDL := hide (show n.ds.length = n.dn from hn.dlen)
  have HCP := hide (fun (w : World) h => refPlain_walk n w h)
  have HCW := hide (fun (w : World) h => ringCheck_walk n w h)
  have HWK := hide (fun (w : World) h => ringWalk_walk n X Y p w h hp hX hY)
  have HRK := hide (fun (w : World) h => refWalk_walk n X Y p w h hp)
  have HRW := hide (fun t0 t1 t2 => RW.new (W := W) n p X Y t0 t1 t2)
  have HWE := hide (show walkE n.devs n.ls (X, Y) p = if plainE n.devs n.ls = 0 then (if placeB n.devs (X, Y) = false then 4 else if rightB p = false then 1 else 0) else plainE n.devs n.ls from rfl)
  have hm2 : n.dn ≤ 9223372036854775807 := by have h3 := hn.cd.1; have h4 := hn.cd.2; unfold maxLen at h4; omega
  clear hn hp
  obtain ⟨x1, x2⟩ := hX
  obtain ⟨y1, y2⟩ := hY
  obtain ⟨dA, dn, dc, ds, lA, ln, lc, ls⟩ := n
  obtain ⟨E, hE⟩ : ∃ E, plainE (NetV.devs ⟨dA, dn, dc, ds, lA, ln, lc, ls⟩) ls = E := ⟨_, rfl⟩
  simp only [hE] at HCW HCP HWE HRK
  have hm2 : dn ≤ 9223372036854775807 := hm2
  have HEE := hide hE
  clear hE
  simp only [NetV.val] at *
  go_enter Try.func4, Try.ntmps4
  go_wp2_with fail
  have hrw := HRW.out 25 34 42
  clear HRW
  generalize World.alloc (World.alloc (World.alloc W _) _) _ = W0 at *
  have HW0 := hide hrw
  clear hrw
  refine (HCP.out W0 (HNA.out _ HW0.out.bl)).mono ?_
  clear HCP
  rintro e w1 ⟨rfl, hb⟩
  have H1 := hide (HW0.out.below hb)
  clear hb HW0
  have k0 := H1.out.n0
  have k1 := H1.out.n1
  go_wp2_with fail
  refine (HCW.out w1 (HNA.out _ H1.out.bl)).mono ?_
  clear HCW k0 k1
  rintro e w2 ⟨rfl, hb⟩
  have H2 := hide (H1.out.below hb)
  clear hb H1
  have k0 := H2.out.n0
  have k1 := H2.out.n1
  have k2 := H2.out.at_.1
  have k3 := H2.out.at_.2.1
  obtain ⟨p0, p1, p2, p3⟩ := H2.out.pk
  go_wp2_with fail
  refine (HWK.out w2 (HNA.out _ H2.out.bl)).mono ?_
  clear HWK k0 k1 k2 k3 p0 p1 p2 p3
  rintro e w3 hR
  obtain ⟨hb, hR1, hR2⟩ := hR
  have H3 := hide (H2.out.below hb)
  have hs3 : W.heap.size ≤ w2.heap.size := H2.out.bl.size
  clear hb H2
  by_cases h0 : E = 0
  case neg =>
    have d1 : (E != 0) = true := by simpa using h0
    have d2 : (E == 0) = false := by simpa using h0
    have hw : walkE (NetV.devs ⟨dA, dn, dc, ds, lA, ln, lc, ls⟩) ls (X, Y) p = E := by rw [HWE.out, if_neg h0]
    have he := hR1 (by rw [hw]; exact h0)
    simp only [hw] at he
    subst he
    clear hw hR1 hR2 h0
    go_wp2
    go_ret
    exact ⟨ret_bool (by simp), H3.out.bl⟩
  subst h0
  have HWE2 := hide (show walkE (NetV.devs ⟨dA, dn, dc, ds, lA, ln, lc, ls⟩) ls (X, Y) p = if placeB (NetV.devs ⟨dA, dn, dc, ds, lA, ln, lc, ls⟩) (X, Y) = false then 4 else if rightB p = false then 1 else 0 from by rw [HWE.out]; rfl)
  clear HWE
  cases c1 : inR X 0 ((dn : Int) - 1)
  · have HB := hide (show placeB (NetV.devs ⟨dA, dn, dc, ds, lA, ln, lc, ls⟩) (X, Y) = false from by
      have h1 : ds.length = dn := HDL.out
      rw [inR_lt] at c1
      simp only [placeB, NetV.devs, List.length_map, h1, c1]
      simp)
    have hw := HWE2.out
    rw [if_pos HB.out] at hw
    have he := hR1 (by rw [hw]; decide)
    simp only [hw] at he
    subst he
    clear hw hR1 hR2
    have HC1 := hide (fun w => inR_is w c1)
    clear c1
    go_wp2
    refine wp_region_abs (by kernel_rfl) (by kernel_rfl) ?_
    intro T hT gt hg hgi
    have HGT := hide hg
    have HGI := hide hgi
    have HRt := hide (fun t => H3.out.below (hg t))
    clear hg hgi
    have k0 := fun t => (HRt.out t).n0
    have k1 := fun t => (HRt.out t).at_.1
    have k2 := fun t => (HRt.out t).at_.2.1
    repeat (go_big_quiet_step ((go_at_call 19; exact inAbsSame (HC1.out _))))
    refine wpQuiet_nil ?_
    intro _ hw'
    obtain ⟨t, rfl⟩ := hw'
    have HT1 := hide (HRt.out t)
    generalize gt t = w9 at *
    go_wp2
    go_ret
    exact ⟨ret_bool (by simp), HT1.out.bl⟩
  have c1' := c1
  rw [inR_lt] at c1'
  simp only [Bool.and_eq_true, decide_eq_true_eq] at c1'
  obtain ⟨i1, i2⟩ := c1'
  obtain ⟨i, rfl⟩ : ∃ i : Nat, X = (i : Int) := ⟨X.toNat, by omega⟩
  obtain ⟨r, hr⟩ : ∃ r, ds[i]? = some r := ⟨_, List.getElem?_eq_getElem (by have : ds.length = dn := HDL.out; omega)⟩
  have hPB : placeB (NetV.devs ⟨dA, dn, dc, ds, lA, ln, lc, ls⟩) ((i : Int), Y) = inR Y 0 (portsF r.kind - 1) := by
    have h1 : ds.length = dn := HDL.out
    have h2 : kindAt (ds.map DevV.dev) (i : Int) = r.kind := by simp [kindAt, hr, DevV.dev]
    have h3 : decide ((i : Int) < (ds.length : Int)) = true := by rw [h1]; simpa using i2
    rw [inR_ltI]
    simp only [placeB, NetV.devs, List.length_map, h2, h3]
    simp
  obtain ⟨db, od, rfl, _, _⟩ := (HNA.out _ H3.out.bl).ds.2 (by show 0 < dn; omega)
  have HPO := hide (fun w => refPorts_walk r.kind w)
  have HKC := hide (fun (w' : World) (hb : RowKit.Below W.heap.size W w') => (dev_get (HNA.out w' hb).ds hr).2.2.1)
  have hpf := portsF_rng r.kind
  obtain ⟨pf1, pf2⟩ := hpf
  generalize portsF r.kind = PF at *
  have HC1 := hide (fun w => inR_is w c1)
  clear c1 hr
  cases c2 : inR Y 0 (PF - 1)
  · have HB := hide (hPB.trans c2)
    have hw := HWE2.out
    rw [if_pos HB.out] at hw
    have he := hR1 (by rw [hw]; decide)
    simp only [hw] at he
    subst he
    clear hw hR1 hR2
    have HC2 := hide (fun w => inR_is w c2)
    clear c2
    go_wp2
    refine wp_region_abs (by kernel_rfl) (by kernel_rfl) ?_
    intro T hT gt hg hgi
    have HGT := hide hg
    have HGI := hide hgi
    have HRt := hide (fun t => H3.out.below (hg t))
    clear hg hgi
    have k0 := fun t => (HRt.out t).n0
    have k1 := fun t => (HRt.out t).at_.1
    have k2 := fun t => (HRt.out t).at_.2.1
    have k3 := fun t => HKC.out (gt t) (HRt.out t).bl
    repeat (go_big_quiet_step (first | (go_at_call_of 19 (Value.int .i64 Y); exact inAbsSame (HC2.out _)) | (go_at_call 19; exact inAbsSame (HC1.out _)) | (go_at_call 20; exact inAbs HGT.out HGI.out (HPO.out _))))
    clear k3
    refine wpQuiet_nil ?_
    intro _ hw'
    obtain ⟨t, rfl⟩ := hw'
    have HT1 := hide (HRt.out t)
    generalize gt t = w9 at *
    go_wp2
    go_ret
    exact ⟨ret_bool (by simp), HT1.out.bl⟩
  have HB := hide (hPB.trans c2)
  cases hrp : rightB p
  · have hw := HWE2.out
    rw [if_neg (by rw [HB.out]; simp), if_pos hrp] at hw
    have he := hR1 (by rw [hw]; decide)
    simp only [hw] at he
    subst he
    clear hw hR1 hR2
    have HC2 := hide (fun w => inR_is w c2)
    clear c2
    go_wp2
    refine wp_region_abs (by kernel_rfl) (by kernel_rfl) ?_
    intro T hT gt hg hgi
    have HGT := hide hg
    have HGI := hide hgi
    have HRt := hide (fun t => H3.out.below (hg t))
    clear hg hgi
    have k0 := fun t => (HRt.out t).n0
    have k1 := fun t => (HRt.out t).at_.1
    have k2 := fun t => (HRt.out t).at_.2.1
    have k3 := fun t => HKC.out (gt t) (HRt.out t).bl
    repeat (go_big_quiet_step (first | (go_at_call_of 19 (Value.int .i64 Y); exact inAbsSame (HC2.out _)) | (go_at_call 19; exact inAbsSame (HC1.out _)) | (go_at_call 20; exact inAbs HGT.out HGI.out (HPO.out _))))
    clear k3
    refine wpQuiet_nil ?_
    intro _ hw'
    obtain ⟨t, rfl⟩ := hw'
    have HT1 := hide (HRt.out t)
    clear k0 k1 k2 HGT HGI HRt
    generalize gt t = w9 at *
    obtain ⟨p0, p1, p2, p3⟩ := HT1.out.pk
    go_wp2_with fail
    refine (right_is p w9 false hrp).mono ?_
    rintro e w5 ⟨rfl, hb⟩
    have H5 := hide (HT1.out.below hb)
    clear hb p0 p1 p2 p3
    go_wp2
    go_ret
    exact ⟨ret_bool (by simp), H5.out.bl⟩
  have hw := HWE2.out
  rw [if_neg (by rw [HB.out]; simp), hrp] at hw
  obtain ⟨v, r1, rfl, hWT, hO, hL⟩ := hR2 (by rw [hw]; rfl)
  obtain ⟨out, rd⟩ := r1
  simp only at hWT hO hL
  obtain ⟨A1, c1, rfl, hc1, _, _⟩ := SlAt.of_own plCells_len hO rfl
  have HO3 := hide (own_mono hO hs3)
  have HWT := hide hWT
  clear hw hR1 hR2 hO hWT
  have HC2 := hide (fun w => inR_is w c2)
  clear c2
  go_wp2
  refine wp_region_abs (by kernel_rfl) (by kernel_rfl) ?_
  intro T hT gt hg hgi
  have HGT := hide hg
  have HGI := hide hgi
  have HRt := hide (fun t => H3.out.below (hg t))
  clear hg hgi
  have k0 := fun t => (HRt.out t).n0
  have k1 := fun t => (HRt.out t).at_.1
  have k2 := fun t => (HRt.out t).at_.2.1
  have k3 := fun t => HKC.out (gt t) (HRt.out t).bl
  repeat (go_big_quiet_step (first | (go_at_call_of 19 (Value.int .i64 Y); exact inAbsSame (HC2.out _)) | (go_at_call 19; exact inAbsSame (HC1.out _)) | (go_at_call 20; exact inAbs HGT.out HGI.out (HPO.out _))))
  clear k3
  refine wpQuiet_nil ?_
  intro _ hw'
  obtain ⟨t, rfl⟩ := hw'
  have HT1 := hide (HRt.out t)
  have HO4 := hide (own_below HO3.out (HGT.out t))
  clear k0 k1 k2 HGT HGI HRt HO3
  generalize gt t = w9 at *
  obtain ⟨p0, p1, p2, p3⟩ := HT1.out.pk
  go_wp2_with fail
  refine (right_is p w9 true hrp).mono ?_
  rintro e w5 ⟨rfl, hb⟩
  have H5 := hide (HT1.out.below hb)
  have HO5 := hide (own_below HO4.out hb)
  clear hb p0 p1 p2 p3 HT1 HO4
  have k0 := H5.out.n0
  have k1 := H5.out.n1
  have k2 := H5.out.at_.1
  have k3 := H5.out.at_.2.1
  obtain ⟨p0, p1, p2, p3⟩ := H5.out.pk
  go_wp2_with fail
  refine (HRK.out w5 (HNA.out _ H5.out.bl) trivial HB.out hrp).mono ?_
  clear k0 k1 k2 k3 p0 p1 p2 p3 HRK
  rintro e w6 ⟨hb, v2, r2, rfl, hWT2, hO2, hL2⟩
  obtain rfl := HWT.out.same hWT2
  simp only at hO2
  obtain ⟨A2, c2, rfl, hc2, _, _⟩ := SlAt.of_own plCells_len hO2 rfl
  have H6 := hide (H5.out.below hb)
  have HO6 := hide (own_below HO5.out hb)
  have HO7 := hide hO2
  clear hb hO2 hWT2 H5 HO5
  go_wp2_with fail
  refine (equalPl_yes out A1 A2 out.length _ _ w6 (by omega) (own_sl plCells_len HO6.out rfl) (own_sl plCells_len HO7.out rfl)).mono ?_
  rintro e w7 ⟨rfl, hb⟩
  have H7 := hide (H6.out.below hb)
  clear hb
  go_wp2
  go_ret
  exact ⟨ret_bool (by simp), H7.out.bl⟩

set_option maxRecDepth 100000 in
theorem ringWalks_lifted (os : Os) (started : os.Started) (H : Type) (enc : TypeId × Value → H) :
    ReturnsInHanded {} Try.checked os 4 .any (Rows.ringWalksSpec.pre6 enc Try.prog Try.f4 Rows.ringWalksRow.domain false) (Rows.ringWalksSpec.post enc Try.prog Try.f4 false true false false) :=
  law_lifted (C := Try.checked) (tb := 4) Try.own started (by kernel_rfl) Try.func4 Try.laidOut (by kernel_rfl) rfl (by kernel_rfl) Try.underlying4
    (fun ds h => by
      match ds, h with
      | [_, _, _], _ => exact ⟨rfl, rfl, rfl⟩)
    (ChangeSpec.witness6 (enc := enc) (C := Try.checked) false ⟨#[], #[.agg #[.slice none 0 0, .slice none 0 0], .agg #[.int .i64 0, .int .i64 0], .agg #[.int .i64 0, .int .i64 0, .int .i64 0, .int .i64 0]], []⟩ 8 (by kernel_rfl) (by kernel_rfl) (by kernel_rfl) (by kernel_rfl))
    (fun W base args ds p hval0 hA0 hlt hsz => by
      have hval : ∀ (j : Nat) t v, Try.f4.params[j]? = some t → args[j]? = some v → Value.okWide Try.prog W .any base t v := hval0
      have hA : DataW.TrodAll enc Try.prog W 0 (fun _ => true) true Try.f4.params.toList args.toList ds p := hA0
      rw [Try.params4] at hA hval
      obtain ⟨v0, vs0, d0, ds0, p0, q0, hargs, rfl, rfl, h0, r0⟩ := args_cons hA
      obtain ⟨v1, vs1, d1, ds1, p1, q1, rfl, rfl, rfl, h1, r1⟩ := args_cons r0
      obtain ⟨v2, vs2, d2, ds2, p2, q2, rfl, rfl, rfl, h2, r2⟩ := args_cons r1
      obtain ⟨rfl, rfl, rfl⟩ := args_nil r2
      obtain rfl : args = #[v0, v1, v2] := arr_eq hargs
      obtain ⟨n, hn, rfl⟩ := open_net (hval 0 _ v0 rfl rfl) h0
      obtain ⟨X, Y, rfl, hX, hY⟩ := open_place (hval 1 _ v1 rfl rfl) h1
      obtain ⟨x, y, z, u, rfl, hx, hy, hz, hu⟩ := open_packet (hval 2 _ v2 rfl rfl) h2
      exact ringWalks_walk n X Y ⟨x, y, z, u⟩ W hn ⟨hx, hy, hz, hu⟩ hX hY)

theorem ringWalks_holds : Rows.RingWalksSaid :=
  OpenClaim.holds_of_wide 4 Try.f4 rfl rfl rfl rfl rfl rfl rfl ⟨rfl, rfl, rfl, rfl, rfl⟩ rfl rfl rfl rfl rfl (by kernel_rfl) Try.func4 (by kernel_rfl)
    (of_decide_eq_true (by kernel_rfl)) (by unfold Func.isWrapper; first | (rw [if_pos (by decide +kernel)]; kernel_rfl) | (rw [if_neg (by decide +kernel)]; exact ⟨rfl, rfl⟩))
    (fun os started H enc _ => ringWalks_lifted os started H enc)
end Go.Proofs.Ytidikopjfpioaaa
