/- ring.Walk: the walk. -/
import Derived.Test.YtidikopjfpioaaaRing4
set_option linter.unusedVariables false
set_option linter.unusedSimpArgs false
namespace Go.Proofs.Ytidikopjfpioaaa
open Go.RowKit

def RWP (W : World) (n : NetV) (X Y : Int) (p : P4) (e : Ending) (W' : World) : Prop := RowKit.Below W.heap.size W W' ∧
  (walkE n.devs n.ls (X, Y) p ≠ 0 → e = .returned (.tuple #[.slice none 0 0, .bool false, .int .i64 (walkE n.devs n.ls (X, Y) p)])) ∧
  (walkE n.devs n.ls (X, Y) p = 0 → ∃ (v : Value) (r : List Pl × Bool), e = .returned (.tuple #[v, .bool r.2, .int .i64 0]) ∧ WalkTo (nextAt n.devs n.ls p) [(X, Y)] (X, Y) r ∧ W'.ownsRow W.heap.size 34 2 v r.1.length (r.1.flatMap plCells) ∧ r.1.length ≤ 40)

theorem RWP.err {W : World} {n : NetV} {X Y : Int} {p : P4} {W' : World} {E : Int} (hb : RowKit.Below W.heap.size W W') (hE : walkE n.devs n.ls (X, Y) p = E) (h0 : E ≠ 0) : RWP W n X Y p (.returned (.tuple #[.slice none 0 0, .bool false, .int .i64 E])) W' :=
  ⟨hb, fun _ => by rw [hE], fun h => absurd (hE.symm.trans h) h0⟩

theorem RW.new {W : World} (n : NetV) (p : P4) (a b : Int) (t0 t1 t2 : TypeId) : RW W n p (((W.alloc (.cells #[.slice n.dA n.dn n.dc, .slice n.lA n.ln n.lc] t0)).alloc (.cells #[.int .i64 a, .int .i64 b] t1)).alloc (.cells #[.int .i64 p.src, .int .i64 p.dst, .int .i64 p.sport, .int .i64 p.dport] t2)) a b := by
  obtain ⟨c, h1, h2⟩ := boxesL [(#[.slice n.dA n.dn n.dc, .slice n.lA n.ln n.lc], t0), (#[.int .i64 a, .int .i64 b], t1), (#[.int .i64 p.src, .int .i64 p.dst, .int .i64 p.sport, .int .i64 p.dport], t2)] W (RowKit.Below.refl _ _)
  have hb := (Box2.new (W.alloc (.cells #[.slice n.dA n.dn n.dc, .slice n.lA n.ln n.lc] t0)) a b t1).below ((RowKit.Below.refl _ _).alloc (Nat.le_refl _) (.cells #[.int .i64 p.src, .int .i64 p.dst, .int .i64 p.sport, .int .i64 p.dport] t2)) (by simp)
  exact ⟨h1, c 0 _ _ rfl 0 _ rfl, c 0 _ _ rfl 1 _ rfl, by simpa using hb, ⟨c 2 _ _ rfl 0 _ rfl, c 2 _ _ rfl 1 _ rfl, c 2 _ _ rfl 2 _ rfl, c 2 _ _ rfl 3 _ rfl⟩, h2⟩

set_option maxRecDepth 100000 in
set_option maxHeartbeats 8000000 in
theorem ringWalk_walk (n : NetV) (X Y : Int) (p : P4) (W : World) (hn : NetAt W W.heap.size n) (hp : p.ok) (hX : i64ok X) (hY : i64ok Y) :
    Calls Try.prog 18 #[n.val, .agg #[.int .i64 X, .int .i64 Y], .agg #[.int .i64 p.src, .int .i64 p.dst, .int .i64 p.sport, .int .i64 p.dport]] W (RWP W n X Y p) := by
  obtain ⟨i0, hi0, hz0, hz1, hz2⟩ := info_parts Try.infoPlace
  have HNA := hide (fun (w' : World) (hb : RowKit.Below W.heap.size W w') => show NetAt w' w'.heap.size n from hn.below hb hb.size)
  have HDL := hide (show n.ds.length = n.dn from hn.dlen)
  have HCW := hide (fun (w : World) h => ringCheck_walk n w h)
  have HRW := hide (fun t0 t1 t2 => RW.new (W := W) n p X Y t0 t1 t2)
  have HP := hide hp
  have HWE := hide (show walkE n.devs n.ls (X, Y) p = if plainE n.devs n.ls = 0 then (if placeB n.devs (X, Y) = false then 4 else if rightB p = false then 1 else 0) else plainE n.devs n.ls from rfl)
  have HPK := hide (fun (h : plainE n.devs n.ls = 0) => plainE_ok h)
  clear hn hp
  obtain ⟨x1, x2⟩ := hX
  obtain ⟨y1, y2⟩ := hY
  obtain ⟨dA, dn, dc, ds, lA, ln, lc, ls⟩ := n
  obtain ⟨E, hE⟩ : ∃ E, plainE (NetV.devs ⟨dA, dn, dc, ds, lA, ln, lc, ls⟩) ls = E := ⟨_, rfl⟩
  simp only [hE] at HCW HWE HPK
  clear hE
  simp only [NetV.val] at *
  go_enter Try.func18, Try.ntmps18
  go_wp2_with fail
  have hrw := HRW.out 25 34 42
  clear HRW
  generalize World.alloc (World.alloc (World.alloc W _) _) _ = W0 at *
  have HW0 := hide hrw
  clear hrw
  refine (HCW.out W0 (HNA.out _ HW0.out.bl)).mono ?_
  clear HCW
  rintro e w1 ⟨rfl, hb⟩
  have H1 := hide (HW0.out.below hb)
  clear hb HW0
  by_cases h0 : E = 0
  case neg =>
    have d1 : (E != 0) = true := by simpa using h0
    have d2 : (E == 0) = false := by simpa using h0
    have HF := hide (RWP.err (n := ⟨dA, dn, dc, ds, lA, ln, lc, ls⟩) (X := X) (Y := Y) (p := p) H1.out.bl (by rw [HWE.out, if_neg h0]) h0)
    clear h0
    go_wp2
    go_ret3
    exact HF.out
  subst h0
  have HOK := hide (HPK.out rfl)
  have HWE2 := hide (show walkE (NetV.devs ⟨dA, dn, dc, ds, lA, ln, lc, ls⟩) ls (X, Y) p = if placeB (NetV.devs ⟨dA, dn, dc, ds, lA, ln, lc, ls⟩) (X, Y) = false then 4 else if rightB p = false then 1 else 0 from by rw [HWE.out]; rfl)
  clear HWE HPK
  have hd10 : dn ≤ 10 := by have := HOK.out.dl; have : ds.length = dn := HDL.out; simp only [NetV.devs, List.length_map] at *; omega
  by_cases c1 : X < 0
  · have HB := hide (show placeB (NetV.devs ⟨dA, dn, dc, ds, lA, ln, lc, ls⟩) (X, Y) = false from by simp [placeB]; omega)
    have d1 : decide (X < 0) = true := by simpa using c1
    go_wp2
    refine wp_region_abs (by kernel_rfl) (by kernel_rfl) ?_
    intro T hT gt hg hgi
    have HGT := hide hg
    have HGI := hide hgi
    have HRt := hide (fun t => H1.out.below (hg t))
    clear hg hgi
    have k0 := fun t => (HRt.out t).n0
    have k1 := fun t => (HRt.out t).at_.1
    have k2 := fun t => (HRt.out t).at_.2.1
    repeat (go_big_quiet_step (fail))
    refine wpQuiet_nil ?_
    intro _ hw'
    obtain ⟨t, rfl⟩ := hw'
    have HT1 := hide (HRt.out t)
    generalize gt t = w9 at *
    clear k0 k1 k2 HGT HGI HRt
    have HF := hide (RWP.err (n := ⟨dA, dn, dc, ds, lA, ln, lc, ls⟩) (X := X) (Y := Y) (p := p) (E := 4) HT1.out.bl (by rw [HWE2.out, if_pos HB.out]) (by omega))
    go_wp2
    go_ret3
    exact HF.out
  have d1 : decide (X < 0) = false := by simpa using c1
  obtain ⟨i, rfl⟩ : ∃ i : Nat, X = (i : Int) := ⟨X.toNat, by omega⟩
  by_cases c2 : dn ≤ i
  · have HB := hide (show placeB (NetV.devs ⟨dA, dn, dc, ds, lA, ln, lc, ls⟩) ((i : Int), Y) = false from by
      have : ds.length = dn := HDL.out
      simp [placeB, NetV.devs]; omega)
    have d2 : decide (dn ≤ i) = true := by simpa using c2
    have d3 : decide ((dn : Int) ≤ (i : Int)) = true := by simpa using c2
    go_wp2
    refine wp_region_abs (by kernel_rfl) (by kernel_rfl) ?_
    intro T hT gt hg hgi
    have HGT := hide hg
    have HGI := hide hgi
    have HRt := hide (fun t => H1.out.below (hg t))
    clear hg hgi
    have k0 := fun t => (HRt.out t).n0
    have k1 := fun t => (HRt.out t).at_.1
    have k2 := fun t => (HRt.out t).at_.2.1
    repeat (go_big_quiet_step (fail))
    refine wpQuiet_nil ?_
    intro _ hw'
    obtain ⟨t, rfl⟩ := hw'
    have HT1 := hide (HRt.out t)
    generalize gt t = w9 at *
    clear k0 k1 k2 HGT HGI HRt
    have HF := hide (RWP.err (n := ⟨dA, dn, dc, ds, lA, ln, lc, ls⟩) (X := (i : Int)) (Y := Y) (p := p) (E := 4) HT1.out.bl (by rw [HWE2.out, if_pos HB.out]) (by omega))
    go_wp2
    go_ret3
    exact HF.out
  have d2 : decide (dn ≤ i) = false := by simpa using c2
  have d3 : decide ((dn : Int) ≤ (i : Int)) = false := by simpa using c2
  have i1 : (0 : Int) ≤ (i : Int) := by omega
  have i2 : (i : Int) < (dn : Int) := by omega
  obtain ⟨r, hr⟩ : ∃ r, ds[i]? = some r := ⟨_, List.getElem?_eq_getElem (by have : ds.length = dn := HDL.out; omega)⟩
  have HPB := hide (show placeB (NetV.devs ⟨dA, dn, dc, ds, lA, ln, lc, ls⟩) ((i : Int), Y) = (decide (0 ≤ Y) && decide (Y < portsF r.kind)) from by
    have h1 : ds.length = dn := HDL.out
    have h2 : kindAt (ds.map DevV.dev) (i : Int) = r.kind := by simp [kindAt, hr, DevV.dev]
    have h3 : decide ((i : Int) < (ds.length : Int)) = true := by rw [h1]; simpa using i2
    simp only [placeB, NetV.devs, List.length_map, h2, h3]
    simp)
  by_cases c3 : Y < 0
  · have HB := hide (show placeB (NetV.devs ⟨dA, dn, dc, ds, lA, ln, lc, ls⟩) ((i : Int), Y) = false from by rw [HPB.out]; simp; omega)
    have d4 : decide (Y < 0) = true := by simpa using c3
    go_wp2
    refine wp_region_abs (by kernel_rfl) (by kernel_rfl) ?_
    intro T hT gt hg hgi
    have HGT := hide hg
    have HGI := hide hgi
    have HRt := hide (fun t => H1.out.below (hg t))
    clear hg hgi
    have k0 := fun t => (HRt.out t).n0
    have k1 := fun t => (HRt.out t).at_.1
    have k2 := fun t => (HRt.out t).at_.2.1
    repeat (go_big_quiet_step (fail))
    refine wpQuiet_nil ?_
    intro _ hw'
    obtain ⟨t, rfl⟩ := hw'
    have HT1 := hide (HRt.out t)
    generalize gt t = w9 at *
    clear k0 k1 k2 HGT HGI HRt
    have HF := hide (RWP.err (n := ⟨dA, dn, dc, ds, lA, ln, lc, ls⟩) (X := (i : Int)) (Y := Y) (p := p) (E := 4) HT1.out.bl (by rw [HWE2.out, if_pos HB.out]) (by omega))
    go_wp2
    go_ret3
    exact HF.out
  have d4 : decide (Y < 0) = false := by simpa using c3
  obtain ⟨db, od, rfl, _, _⟩ := (HNA.out _ H1.out.bl).ds.2 (by show 0 < dn; omega)
  have HPO := hide (fun w => ports_walk r.kind w)
  have HKC := hide (fun (w' : World) (hb : RowKit.Below W.heap.size W w') => (dev_get (HNA.out w' hb).ds hr).2.2.1)
  by_cases c4 : portsF r.kind ≤ Y
  · have HB := hide (show placeB (NetV.devs ⟨some ⟨db, od, none⟩, dn, dc, ds, lA, ln, lc, ls⟩) ((i : Int), Y) = false from by rw [HPB.out]; simp; omega)
    generalize portsF r.kind = PF at *
    have d5 : decide (PF ≤ Y) = true := by simpa using c4
    go_wp2
    refine wp_region_abs (by kernel_rfl) (by kernel_rfl) ?_
    intro T hT gt hg hgi
    have HGT := hide hg
    have HGI := hide hgi
    have HRt := hide (fun t => H1.out.below (hg t))
    clear hg hgi
    have k0 := fun t => (HRt.out t).n0
    have k1 := fun t => (HRt.out t).at_.1
    have k2 := fun t => (HRt.out t).at_.2.1
    have k3 := fun t => HKC.out (gt t) (HRt.out t).bl
    repeat (go_big_quiet_step ((go_at_call 15; exact inAbsSame (HPO.out _))))
    clear k3
    refine wpQuiet_nil ?_
    intro _ hw'
    obtain ⟨t, rfl⟩ := hw'
    have HT1 := hide (HRt.out t)
    generalize gt t = w9 at *
    clear k0 k1 k2 HGT HGI HRt
    have HF := hide (RWP.err (n := ⟨some ⟨db, od, none⟩, dn, dc, ds, lA, ln, lc, ls⟩) (X := (i : Int)) (Y := Y) (p := p) (E := 4) HT1.out.bl (by rw [HWE2.out, if_pos HB.out]) (by omega))
    go_wp2
    go_ret3
    exact HF.out
  have HB := hide (show placeB (NetV.devs ⟨some ⟨db, od, none⟩, dn, dc, ds, lA, ln, lc, ls⟩) ((i : Int), Y) = true from by rw [HPB.out]; simp; omega)
  generalize portsF r.kind = PF at *
  have d5 : decide (PF ≤ Y) = false := by simpa using c4
  go_wp2
  refine wp_region_abs (by kernel_rfl) (by kernel_rfl) ?_
  intro T hT gt hg hgi
  have HGT := hide hg
  have HGI := hide hgi
  have HRt := hide (fun t => H1.out.below (hg t))
  clear hg hgi
  have k0 := fun t => (HRt.out t).n0
  have k1 := fun t => (HRt.out t).at_.1
  have k2 := fun t => (HRt.out t).at_.2.1
  have k3 := fun t => HKC.out (gt t) (HRt.out t).bl
  repeat (go_big_quiet_step ((go_at_call 15; exact inAbsSame (HPO.out _))))
  clear k3
  refine wpQuiet_nil ?_
  intro _ hw'
  obtain ⟨t, rfl⟩ := hw'
  have HT1 := hide (HRt.out t)
  generalize gt t = w9 at *
  clear k0 k1 k2 HGT HGI HRt
  have HWE3 := hide (show walkE (NetV.devs ⟨some ⟨db, od, none⟩, dn, dc, ds, lA, ln, lc, ls⟩) ls ((i : Int), Y) p = if rightB p = false then 1 else 0 from by rw [HWE2.out, if_neg (by rw [HB.out]; simp)])
  clear HWE2 HPB HPO HKC H1 hr d1 d2 d3 d4 d5 c1 c2 c3 c4 i1 i2
  obtain ⟨p0, p1, p2, p3⟩ := HT1.out.pk
  go_wp2_with fail
  refine (packetCheck_walk p _).mono ?_
  rintro e w2 ⟨rfl, hb⟩
  have H2 := hide (HT1.out.below hb)
  clear hb HT1 p0 p1 p2 p3
  cases hrp : rightB p
  · have HF := hide (RWP.err (n := ⟨some ⟨db, od, none⟩, dn, dc, ds, lA, ln, lc, ls⟩) (X := (i : Int)) (Y := Y) (p := p) (E := 1) H2.out.bl (by rw [HWE3.out, if_pos hrp]) (by omega))
    clear hrp
    go_wp2
    go_ret3
    exact HF.out
  have HWE4 := hide (show walkE (NetV.devs ⟨some ⟨db, od, none⟩, dn, dc, ds, lA, ln, lc, ls⟩) ls ((i : Int), Y) p = 0 from by rw [HWE3.out, hrp]; rfl)
  clear HWE3 hrp
  have k1 := H2.out.at_.1
  have k2 := H2.out.at_.2.1
  have HO0 := hide (World.ownsRow_lit (e := 34) (size := 2) (base := W.heap.size + 3) w2 #[.int .i64 (i : Int), .int .i64 Y] 1 H2.out.sz (by simp [maxLen]) rfl)
  have HA0 := hide (fun o => H2.out.alloc o)
  go_wp2
  clear k1 k2
  go_loopw [11] (fun v wr => ∃ (out : List Pl) (a b : Int), Hid (RW W ⟨some ⟨db, od, none⟩, dn, dc, ds, lA, ln, lc, ls⟩ p wr a b) ∧ Hid (wr.ownsRow (W.heap.size + 3) 34 2 v out.length (out.flatMap plCells)) ∧ Hid (∀ r, WalkTo (nextAt (NetV.devs ⟨some ⟨db, od, none⟩, dn, dc, ds, lA, ln, lc, ls⟩) ls p) out (a, b) r → WalkTo (nextAt (NetV.devs ⟨some ⟨db, od, none⟩, dn, dc, ds, lA, ln, lc, ls⟩) ls p) [((i : Int), Y)] ((i : Int), Y) r) ∧ Hid (WayOk (NetV.devs ⟨some ⟨db, od, none⟩, dn, dc, ds, lA, ln, lc, ls⟩) out (a, b)) ∧ lenOf v = out.length) (fun v _ => 41 - lenOf v)
  case atStart => exact ⟨[((i : Int), Y)], (i : Int), Y, hide (HA0.out _), hide (by simpa [plCells] using HO0.out), hide (fun r h => h), hide ⟨by simp, fun y hy => by simp at hy; subst hy; exact HB.out, HB.out⟩, rfl⟩
  case round =>
    clear HO0 HA0 HB H2
    obtain ⟨out, a, b, HRW, HO, HWT, HWO, hlen⟩ := hrel
    generalize u11 = v at *
    obtain ⟨A2, c2, rfl, hc2, _, _⟩ := SlAt.of_own plCells_len HO.out rfl
    clear hlen
    have hL : out.length ≤ 40 := HWO.out.len HOK.out.dl
    have hpb := (placeB_iff.1 HWO.out.px).1
    obtain ⟨j, rfl⟩ : ∃ j : Nat, a = (j : Int) := ⟨a.toNat, by omega⟩
    obtain ⟨r, hr⟩ : ∃ r, ds[j]? = some r := ⟨_, List.getElem?_eq_getElem (by simp only [NetV.devs, List.length_map] at hpb; omega)⟩
    obtain ⟨NX, hNX⟩ : ∃ NX, nextF ls r.dev (j : Int) p = NX := ⟨_, rfl⟩
    have HNT := hide (show nextAt (NetV.devs ⟨some ⟨db, od, none⟩, dn, dc, ds, lA, ln, lc, ls⟩) ls p ((j : Int), b) = NX from by
      rw [← hNX]; simp [nextAt, NetV.devs, hr])
    have HNC := hide (next_walk ⟨some ⟨db, od, none⟩, dn, dc, ds, lA, ln, lc, ls⟩ j b p r wr (HNA.out _ HRW.out.bl) hr HP.out)
    simp only [NetV.val, hNX] at HNC
    clear hNX hr hpb
    have k0 := HRW.out.n0
    have k1 := HRW.out.n1
    have k2 := HRW.out.at_.1
    have k3 := HRW.out.at_.2.1
    obtain ⟨p0, p1, p2, p3⟩ := HRW.out.pk
    go_wp2_with fail
    refine HNC.out.mono ?_
    clear HNC k0 k1 k2 k3 p0 p1 p2 p3
    rintro e w3 ⟨rfl, hb⟩
    have H3 := hide (HRW.out.below hb)
    have HO3 := hide (own_below HO.out hb)
    have hs3 : wr.heap.size ≤ w3.heap.size := hb.size
    have HOLT := hide (fun q (hq : (Value.slice A2 out.length c2).ownBlock = some q) => (HO.out.lt q hq))
    clear hb HRW HO
    have HO4 := hide (fun o => own_below HO3.out ((RowKit.Below.refl w3.heap.size w3).alloc (Nat.le_refl _) o))
    have H4 := hide (fun o => H3.out.alloc o)
    cases NX with
    | none =>
      have HF := hide (fun o => show RWP W ⟨some ⟨db, od, none⟩, dn, dc, ds, lA, ln, lc, ls⟩ (i : Int) Y p (.returned (.tuple #[.slice A2 out.length c2, .bool false, .int .i64 0])) (w3.alloc o) from
        ⟨(H4.out o).bl, fun h => absurd HWE4.out h, fun _ => ⟨_, (out, false), rfl, HWT.out _ (.stop HNT.out), own_mono (HO4.out o) (by omega), hL⟩⟩)
      simp only [peerV]
      go_wp2
      go_ret3
      exact HF.out _
    | some to =>
      obtain ⟨t1, t2⟩ := to
      have HCT := hide (fun o => containsPl_any out A2 out.length c2 t1 t2 (w3.alloc o) (by omega) (own_sl plCells_len (HO4.out o) rfl))
      obtain ⟨ANY, hANY⟩ : ∃ B, out.any (fun z => eqP (t1, t2) z) = B := ⟨_, rfl⟩
      simp only [hANY] at HCT
      have HBX := hide (fun (t : TypeId) => Box2.new w3 t1 t2 t)
      simp only [peerV]
      go_wp2_with fail
      refine (HCT.out _).mono ?_
      clear HCT
      rintro e w5 ⟨rfl, hb⟩
      have H5 := hide ((H4.out _).below hb)
      have HO5 := hide (own_below (HO4.out _) hb)
      have HX5 := hide ((HBX.out 34).below hb (by simp))
      have hs5 : w3.heap.size < w5.heap.size := by have := hb.size; simp at this; omega
      clear hb HO4 H4 HBX
      cases ANY
      case true =>
        have HF := hide (show RWP W ⟨some ⟨db, od, none⟩, dn, dc, ds, lA, ln, lc, ls⟩ (i : Int) Y p (.returned (.tuple #[.slice A2 out.length c2, .bool true, .int .i64 0])) w5 from
          ⟨H5.out.bl, fun h => absurd HWE4.out h, fun _ => ⟨_, (out, true), rfl, HWT.out _ (.round HNT.out (by
            obtain ⟨z, hz, he⟩ := List.any_eq_true.1 hANY
            rw [(eqP_iff _ _).1 he]; exact hz)), own_mono HO5.out (by omega), hL⟩⟩)
        clear hANY
        go_wp2
        go_ret3
        exact HF.out
      have HNM := hide (show (t1, t2) ∉ out from fun hm => by
        have := List.any_eq_false.1 hANY _ hm
        rw [eqP_self] at this
        exact this rfl)
      clear hANY
      have HWN := hide (HWO.out.step HNM.out (nextAt_valid HOK.out HNT.out))
      have HWU := hide (fun r (h : WalkTo (nextAt (NetV.devs ⟨some ⟨db, od, none⟩, dn, dc, ds, lA, ln, lc, ls⟩) ls p) (out ++ [(t1, t2)]) (t1, t2) r) => HWT.out r (.step HNT.out HNM.out h))
      obtain ⟨z0, z1, _, _⟩ := HX5.out
      have HOL := hide (own_below HO5.out ((RowKit.Below.refl w5.heap.size w5).alloc (Nat.le_refl _) (.cells #[.int .i64 t1, .int .i64 t2] 34)))
      have H6 := hide (H5.out.alloc (.cells #[.int .i64 t1, .int .i64 t2] 34))
      have HX6 := hide (HX5.out.below ((RowKit.Below.refl w5.heap.size w5).alloc (Nat.le_refl _) (.cells #[.int .i64 t1, .int .i64 t2] 34)) hs5)
      have HLIT := hide (show Reads (w5.alloc (.cells #[.int .i64 t1, .int .i64 t2] 34)) (w5.heap.size + 1) 2 (some ⟨w5.heap.size, 0, none⟩) 1 [.int .i64 t1, .int .i64 t2] from
        ⟨rfl, fun _ => ⟨_, rfl, Nat.lt_succ_self _, fun j u hu => by
          rw [addr_add, Nat.zero_add, cell_of_row _ _ _ _ _ _ (heap_alloc_new w5 _)]
          simpa using hu⟩⟩)
      have hs6 := H6.out.sz
      have hsz6 : (w5.alloc (.cells #[.int .i64 t1, .int .i64 t2] 34)).heap.size = w5.heap.size + 1 := by simp
      have HS6 := hide (And.intro hs6 hsz6)
      clear hs6 hsz6 H5 HO5
      have hM : w3.heap.size ≠ W.heap.size + 1 := by have := H3.out.sz; omega
      go_wp2_with (at_builtin; refine wpList_append_any _ rfl (.tmp 69) (.tmp 71) 43 rfl (W.heap.size + 3) 34 i0 _ 2 16 Try.underlying43 hi0 hz0 hz1 hz2 rfl (by omega) (.slice A2 out.length c2) out.length (out.flatMap plCells) rfl HOL.out (w5.heap.size + 1) (some ⟨w5.heap.size, 0, none⟩) 1 1 [.int .i64 t1, .int .i64 t2] rfl HLIT.out (by intro u hu; simp at hu; rcases hu with rfl | rfl <;> rfl) (by simp only [maxLen]; omega) (by omega) HS6.out.1 ?_; intro v6 w6 hown6 hg6 hat6; have HG6 := hide (H6.out.grown hg6 (fun q hq => (HOLT.out q hq).1)); have HX7 := hide (show w6.heap[w3.heap.size]? = (w5.alloc (.cells #[.int .i64 t1, .int .i64 t2] 34)).heap[w3.heap.size]? from hg6.block w3.heap.size (by rw [HS6.out.2]; omega) (fun e => by have := (HOLT.out _ e.symm).2; omega)); have HO6 := hide hown6; clear hown6 hg6 hat6; have g0 := (World.cell?_of_block (a := ⟨w3.heap.size, 0, none⟩) HX7.out).trans HX6.out.1; have g1 := (World.cell?_of_block (a := ⟨w3.heap.size, 1, none⟩) HX7.out).trans HX6.out.2.1; have g2 := HG6.out.at_.1; have g3 := HG6.out.at_.2.1; have g4 := HG6.out.at_.2.2.1; have g5 := HG6.out.at_.2.2.2)
      obtain ⟨g6, cap6, hv6, _⟩ := HO6.out.form (by omega)
      have HV6 := hide (show lenOf v6 = out.length + 1 from by rw [hv6]; rfl)
      clear hv6
      exact ⟨⟨out ++ [(t1, t2)], t1, t2, hide (HG6.out.set t1 t2), hide (own_set (own_set (by simpa [plCells] using HO6.out) (by show W.heap.size + 1 < _; omega) _) (by show W.heap.size + 1 < _; omega) _), HWU, HWN, by rw [HV6.out]; simp⟩, by rw [HV6.out]; simp only [lenOf]; omega⟩
end Go.Proofs.Ytidikopjfpioaaa
