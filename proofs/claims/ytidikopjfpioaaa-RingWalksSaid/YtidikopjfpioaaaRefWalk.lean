/- wireref.Walk: the walk. -/
import Derived.Test.YtidikopjfpioaaaHandP
import Derived.Test.YtidikopjfpioaaaRing5
set_option linter.unusedVariables false
set_option linter.unusedSimpArgs false
namespace Go.Proofs.Ytidikopjfpioaaa
open Go.RowKit

theorem plain_kind {ds : List Dev} {ls : List LinkV} (h : plainE ds ls = 0) : ∀ d ∈ ds, d.kind = 1 ∨ d.kind = 2 := by
  unfold plainE at h
  split at h
  · split at h
    · cases h
    · intro d hd
      have h2 : ds.any (fun d => oddKind d.kind) = false := Bool.eq_false_iff.2 (by assumption)
      have := List.any_eq_false.1 h2 d hd
      simp [oddKind] at this
      omega
  · contradiction

/-- The boxes of the walk, and the mind's. -/
structure RM (W : World) (n : NetV) (p : P4) (w : World) (a b : Int) : Prop where
  rw : RW W n p w a b
  g0 : w.cell? ⟨W.heap.size + 1 + 1 + 1, 0, none⟩ = some (.slice n.dA n.dn n.dc)
  g1 : w.cell? ⟨W.heap.size + 1 + 1 + 1, 1, none⟩ = some (.slice n.lA n.ln n.lc)
  z4 : W.heap.size + 4 ≤ w.heap.size
section
variable {W w w' : World} {n : NetV} {p : P4} {a b : Int}
theorem RM.below (h : RM W n p w a b) (hb : RowKit.Below w.heap.size w w') : RM W n p w' a b := by
  have hs := h.z4
  have hs2 := hb.size
  exact ⟨h.rw.below hb, (hb.cell (p := ⟨W.heap.size + 1 + 1 + 1, 0, none⟩) (by show W.heap.size + 1 + 1 + 1 < _; omega)).trans h.g0, (hb.cell (p := ⟨W.heap.size + 1 + 1 + 1, 1, none⟩) (by show W.heap.size + 1 + 1 + 1 < _; omega)).trans h.g1, by omega⟩
theorem RM.alloc (h : RM W n p w a b) (o : Obj) : RM W n p (w.alloc o) a b := h.below ((RowKit.Below.refl _ _).alloc (Nat.le_refl _) o)
theorem RM.grown (h : RM W n p w a b) {row : Option Nat} (hg : w.grownBy w' row) (hr : ∀ q, row = some q → W.heap.size + 4 ≤ q) : RM W n p w' a b := by
  have hs := h.z4
  have hs2 := hg.size
  have hb : RowKit.Below (W.heap.size + 4) w w' := (RowKit.Below.refl _ _).grown hg hs hr
  exact ⟨h.rw.grown hg (fun q hq => by have := hr q hq; omega), (hb.cell (p := ⟨W.heap.size + 1 + 1 + 1, 0, none⟩) (by show W.heap.size + 1 + 1 + 1 < _; omega)).trans h.g0, (hb.cell (p := ⟨W.heap.size + 1 + 1 + 1, 1, none⟩) (by show W.heap.size + 1 + 1 + 1 < _; omega)).trans h.g1, by omega⟩
theorem RM.set (h : RM W n p w a b) (c d : Int) : RM W n p ((w.setCell ⟨W.heap.size + 1, 0, none⟩ (.int .i64 c)).setCell ⟨W.heap.size + 1, 1, none⟩ (.int .i64 d)) c d := by
  have e : ∀ (w : World) (q : Addr) (o : Nat) (v : Value), q.block ≠ W.heap.size + 1 → (w.setCell ⟨W.heap.size + 1, o, none⟩ v).cell? q = w.cell? q := fun w q o v hq =>
    World.cell?_of_block (Below.heap_setCell w ⟨W.heap.size + 1, o, none⟩ v q.block hq)
  refine ⟨h.rw.set c d, ?_, ?_, ?_⟩
  · rw [e _ _ _ _ (by show W.heap.size + 1 + 1 + 1 ≠ _; omega), e _ _ _ _ (by show W.heap.size + 1 + 1 + 1 ≠ _; omega)]; exact h.g0
  · rw [e _ _ _ _ (by show W.heap.size + 1 + 1 + 1 ≠ _; omega), e _ _ _ _ (by show W.heap.size + 1 + 1 + 1 ≠ _; omega)]; exact h.g1
  · have hsz : ((w.setCell ⟨W.heap.size + 1, 0, none⟩ (.int .i64 c)).setCell ⟨W.heap.size + 1, 1, none⟩ (.int .i64 d)).heap.size = w.heap.size := by simp [World.setCell]
    rw [hsz]; exact h.z4
theorem RM.new (n : NetV) (p : P4) (a b : Int) (t0 t1 t2 t3 : TypeId) (v : Value) : RM W n p ((((W.alloc (.cells #[.slice n.dA n.dn n.dc, .slice n.lA n.ln n.lc] t0)).alloc (.cells #[.int .i64 a, .int .i64 b] t1)).alloc (.cells #[.int .i64 p.src, .int .i64 p.dst, .int .i64 p.sport, .int .i64 p.dport] t2)).alloc (.cells #[.slice n.dA n.dn n.dc, .slice n.lA n.ln n.lc, v] t3)) a b := by
  obtain ⟨c, h1, h2⟩ := boxesL [(#[.slice n.dA n.dn n.dc, .slice n.lA n.ln n.lc], t0), (#[.int .i64 a, .int .i64 b], t1), (#[.int .i64 p.src, .int .i64 p.dst, .int .i64 p.sport, .int .i64 p.dport], t2), (#[.slice n.dA n.dn n.dc, .slice n.lA n.ln n.lc, v], t3)] W (RowKit.Below.refl _ _)
  exact ⟨(RW.new n p a b t0 t1 t2).alloc _, c 3 _ _ rfl 0 _ rfl, c 3 _ _ rfl 1 _ rfl, h2⟩
end

def RefW (W : World) (n : NetV) (X Y : Int) (p : P4) (e : Ending) (W' : World) : Prop := RowKit.Below W.heap.size W W' ∧
  ∃ (v : Value) (r : List Pl × Bool), e = .returned (.tuple #[v, .bool r.2]) ∧ WalkTo (nextAt n.devs n.ls p) [(X, Y)] (X, Y) r ∧ W'.ownsRow W.heap.size 34 2 v r.1.length (r.1.flatMap plCells) ∧ r.1.length ≤ 40

set_option maxRecDepth 100000 in
set_option maxHeartbeats 8000000 in
theorem refWalk_walk (n : NetV) (X Y : Int) (p : P4) (W : World) (hn : NetAt W W.heap.size n) (hp : p.ok) (hpl : plainE n.devs n.ls = 0) (hpb : placeB n.devs (X, Y) = true) (hrp : rightB p = true) :
    Calls Try.prog 22 #[n.val, .agg #[.int .i64 X, .int .i64 Y], .agg #[.int .i64 p.src, .int .i64 p.dst, .int .i64 p.sport, .int .i64 p.dport]] W (RefW W n X Y p) := by
  obtain ⟨i0, hi0, hz0, hz1, hz2⟩ := info_parts Try.infoPlace
  have HNA := hide (fun (w' : World) (hb : RowKit.Below W.heap.size W w') => show NetAt w' w'.heap.size n from hn.below hb hb.size)
  have HDL := hide (show n.ds.length = n.dn from hn.dlen)
  have HP := hide (And.intro hp hrp)
  have HOK := hide (plainE_ok hpl)
  have HKD := hide (plain_kind hpl)
  have HB := hide hpb
  clear hn hp hpl hpb hrp
  obtain ⟨dA, dn, dc, ds, lA, ln, lc, ls⟩ := n
  have hd10 : dn ≤ 10 := by have := HOK.out.dl; have : ds.length = dn := HDL.out; simp only [NetV.devs, List.length_map] at *; omega
  simp only [NetV.val] at *
  go_enter Try.func22, Try.ntmps22
  go_wp2_with fail
  generalize hG : World.alloc (World.alloc (World.alloc (World.alloc W _) _) _) _ = W0
  have hm0 : RM W ⟨dA, dn, dc, ds, lA, ln, lc, ls⟩ p W0 X Y := by rw [← hG]; exact RM.new _ _ _ _ _ _ _ _ _
  have hsz0 : W0.heap.size = W.heap.size + 1 + 1 + 1 + 1 := by rw [← hG]; simp
  have ho0 := World.ownsRow_lit (e := 34) (size := 2) (base := W.heap.size + 4) W0 #[.int .i64 X, .int .i64 Y] 1 hm0.z4 (by simp [maxLen]) rfl
  rw [hsz0] at ho0
  have HM0 := hide (hm0.alloc (.cells #[.int .i64 X, .int .i64 Y] 34))
  have HO0 := hide ho0
  clear hG hm0 hsz0 ho0
  generalize World.alloc W0 _ = W0 at *
  go_loopw [9] (fun v wr => ∃ (out : List Pl) (a b : Int), Hid (RM W ⟨dA, dn, dc, ds, lA, ln, lc, ls⟩ p wr a b) ∧ Hid (wr.ownsRow (W.heap.size + 4) 34 2 v out.length (out.flatMap plCells)) ∧ Hid (∀ r, WalkTo (nextAt (NetV.devs ⟨dA, dn, dc, ds, lA, ln, lc, ls⟩) ls p) out (a, b) r → WalkTo (nextAt (NetV.devs ⟨dA, dn, dc, ds, lA, ln, lc, ls⟩) ls p) [(X, Y)] (X, Y) r) ∧ Hid (WayOk (NetV.devs ⟨dA, dn, dc, ds, lA, ln, lc, ls⟩) out (a, b)) ∧ lenOf v = out.length) (fun v _ => 41 - lenOf v)
  case atStart => exact ⟨[(X, Y)], X, Y, hide HM0.out, hide (by simpa [plCells] using HO0.out), hide (fun r h => h), hide ⟨by simp, fun y hy => by simp at hy; subst hy; exact HB.out, HB.out⟩, rfl⟩
  case round =>
    clear HO0 HB HM0
    obtain ⟨out, a, b, HRW, HO, HWT, HWO, hlen⟩ := hrel
    generalize u9 = v at *
    obtain ⟨A2, c2, rfl, hc2, _, _⟩ := SlAt.of_own plCells_len HO.out rfl
    clear hlen
    have hL : out.length ≤ 40 := HWO.out.len HOK.out.dl
    obtain ⟨hpb, hpb2, hpb3⟩ := (placeB_iff.1 HWO.out.px)
    obtain ⟨j, rfl⟩ : ∃ j : Nat, a = (j : Int) := ⟨a.toNat, by simp only at hpb; omega⟩
    obtain ⟨r, hr⟩ : ∃ r, ds[j]? = some r := ⟨_, List.getElem?_eq_getElem (by simp only [NetV.devs, List.length_map] at hpb; omega)⟩
    have hkr : r.kind = 1 ∨ r.kind = 2 := by
      have := HKD.out r.dev (by simp only [NetV.devs]; exact List.mem_map_of_mem (List.mem_of_getElem? hr))
      simpa [DevV.dev] using this
    have hk2 : kindAt (NetV.devs ⟨dA, dn, dc, ds, lA, ln, lc, ls⟩) (j : Int) = r.kind := by simp [NetV.devs, kindAt, hr, DevV.dev]
    simp only [hk2] at hpb2 hpb3
    obtain ⟨NX, hNX⟩ : ∃ NX, nextF ls r.dev (j : Int) p = NX := ⟨_, rfl⟩
    have HNT := hide (show nextAt (NetV.devs ⟨dA, dn, dc, ds, lA, ln, lc, ls⟩) ls p ((j : Int), b) = NX from by
      rw [← hNX]; simp [nextAt, NetV.devs, hr])
    have HNC := hide (handP_walk (W.heap.size + 1 + 1 + 1) ⟨dA, dn, dc, ds, lA, ln, lc, ls⟩ j b p 0 r wr (HNA.out _ HRW.out.rw.bl) hr hkr ⟨hpb2, hpb3⟩ HP.out.1 HP.out.2 hd10 (by have := HRW.out.z4; omega) HRW.out.g0 HRW.out.g1)
    simp only [hNX] at HNC
    clear hNX hr hpb hpb2 hpb3 hkr hk2
    have k2 := HRW.out.rw.at_.1
    have k3 := HRW.out.rw.at_.2.1
    obtain ⟨p0, p1, p2, p3⟩ := HRW.out.rw.pk
    go_wp2_with fail
    refine HNC.out.mono ?_
    clear HNC k2 k3 p0 p1 p2 p3
    rintro e w3 ⟨rfl, hb⟩
    have H3 := hide (HRW.out.below hb)
    have HO3 := hide (own_below HO.out hb)
    have hs3 : wr.heap.size ≤ w3.heap.size := hb.size
    have HOLT := hide (fun q (hq : (Value.slice A2 out.length c2).ownBlock = some q) => (HO.out.lt q hq))
    clear hb HRW HO
    have HO4 := hide (fun o => own_below HO3.out ((RowKit.Below.refl w3.heap.size w3).alloc (Nat.le_refl _) o))
    have H4 := hide (fun o => H3.out.alloc o)
    cases NX with
    | none =>
      have HF := hide (fun o => show RefW W ⟨dA, dn, dc, ds, lA, ln, lc, ls⟩ X Y p (.returned (.tuple #[.slice A2 out.length c2, .bool false])) (w3.alloc o) from
        ⟨(H4.out o).rw.bl, ⟨_, (out, false), rfl, HWT.out _ (.stop HNT.out), own_mono (HO4.out o) (by omega), hL⟩⟩)
      simp only [arrV]
      go_wp2
      go_ret2
      exact HF.out _
    | some to =>
      obtain ⟨t1, t2⟩ := to
      have hM : w3.heap.size ≠ W.heap.size + 1 := by have := H3.out.z4; omega
      have hM' := Ne.symm hM
      have q2 := fun o => (H4.out o).rw.at_.1
      have q3 := fun o => (H4.out o).rw.at_.2.1
      have q4 := fun o => (H4.out o).rw.at_.2.2.1
      have q5 := fun o => (H4.out o).rw.at_.2.2.2
      have HAS := hide (fun o => (H4.out o).set t1 t2)
      have HOS := hide (fun o => own_set (own_set (HO4.out o) (by show W.heap.size + 1 < _; omega) (q := ⟨W.heap.size + 1, 0, none⟩) (.int .i64 t1)) (by show W.heap.size + 1 < _; omega) (q := ⟨W.heap.size + 1, 1, none⟩) (.int .i64 t2))
      have HZS := hide (fun o => show (((w3.alloc o).setCell ⟨W.heap.size + 1, 0, none⟩ (.int .i64 t1)).setCell ⟨W.heap.size + 1, 1, none⟩ (.int .i64 t2)).heap.size = w3.heap.size + 1 from by simp [World.setCell])
      simp only [arrV]
      go_wp2_with fail
      have hAS := HAS.out (.cells #[.int .i64 t1, .int .i64 t2, .int .i64 p.src, .int .i64 p.dst, .int .i64 p.sport, .int .i64 p.dport] 91)
      have hOS := HOS.out (.cells #[.int .i64 t1, .int .i64 t2, .int .i64 p.src, .int .i64 p.dst, .int .i64 p.sport, .int .i64 p.dport] 91)
      have hZS := HZS.out (.cells #[.int .i64 t1, .int .i64 t2, .int .i64 p.src, .int .i64 p.dst, .int .i64 p.sport, .int .i64 p.dport] 91)
      clear HAS HOS HZS q2 q3 q4 q5
      generalize World.setCell (World.setCell (World.alloc w3 _) _ _) _ _ = w4 at *
      obtain ⟨ANY, hANY⟩ : ∃ B, out.any (fun z => eqP (t1, t2) z) = B := ⟨_, rfl⟩
      have HCT := hide (containsPl_any out A2 out.length c2 t1 t2 w4 (by omega) (own_sl plCells_len hOS rfl))
      simp only [hANY] at HCT
      refine HCT.out.mono ?_
      clear HCT
      rintro e w5 ⟨rfl, hb⟩
      have H5 := hide (hAS.below hb)
      have HO5 := hide (own_below hOS hb)
      have hs5 : w3.heap.size < w5.heap.size := by have := hb.size; omega
      clear hb hAS hOS hZS HO4 H4
      cases ANY
      case true =>
        have HF := hide (show RefW W ⟨dA, dn, dc, ds, lA, ln, lc, ls⟩ X Y p (.returned (.tuple #[.slice A2 out.length c2, .bool true])) w5 from
          ⟨H5.out.rw.bl, ⟨_, (out, true), rfl, HWT.out _ (.round HNT.out (by
            obtain ⟨z, hz, he⟩ := List.any_eq_true.1 hANY
            rw [(eqP_iff _ _).1 he]; exact hz)), own_mono HO5.out (by omega), hL⟩⟩)
        clear hANY
        go_wp2
        go_ret2
        exact HF.out
      have HNM := hide (show (t1, t2) ∉ out from fun hm => by
        have := List.any_eq_false.1 hANY _ hm
        rw [eqP_self] at this
        exact this rfl)
      clear hANY
      have HWN := hide (HWO.out.step HNM.out (nextAt_valid HOK.out HNT.out))
      have HWU := hide (fun r (h : WalkTo (nextAt (NetV.devs ⟨dA, dn, dc, ds, lA, ln, lc, ls⟩) ls p) (out ++ [(t1, t2)]) (t1, t2) r) => HWT.out r (.step HNT.out HNM.out h))
      obtain ⟨z0, z1, _, _⟩ := H5.out.rw.at_
      have HOL := hide (own_below HO5.out ((RowKit.Below.refl w5.heap.size w5).alloc (Nat.le_refl _) (.cells #[.int .i64 t1, .int .i64 t2] 34)))
      have H6 := hide (H5.out.alloc (.cells #[.int .i64 t1, .int .i64 t2] 34))
      have HLIT := hide (show Reads (w5.alloc (.cells #[.int .i64 t1, .int .i64 t2] 34)) (w5.heap.size + 1) 2 (some ⟨w5.heap.size, 0, none⟩) 1 [.int .i64 t1, .int .i64 t2] from
        ⟨rfl, fun _ => ⟨_, rfl, Nat.lt_succ_self _, fun j u hu => by
          rw [addr_add, Nat.zero_add, cell_of_row _ _ _ _ _ _ (heap_alloc_new w5 _)]
          simpa using hu⟩⟩)
      have hs6 := H6.out.z4
      have hsz6 : (w5.alloc (.cells #[.int .i64 t1, .int .i64 t2] 34)).heap.size = w5.heap.size + 1 := by simp
      have HS6 := hide (And.intro hs6 hsz6)
      clear hs6 hsz6 H5 HO5
      go_wp2_with (at_builtin; refine wpList_append_any _ rfl (.tmp 33) (.tmp 35) 43 rfl (W.heap.size + 4) 34 i0 _ 2 16 Try.underlying43 hi0 hz0 hz1 hz2 rfl (by omega) (.slice A2 out.length c2) out.length (out.flatMap plCells) rfl HOL.out (w5.heap.size + 1) (some ⟨w5.heap.size, 0, none⟩) 1 1 [.int .i64 t1, .int .i64 t2] rfl HLIT.out (by intro u hu; simp at hu; rcases hu with rfl | rfl <;> rfl) (by simp only [maxLen]; omega) (by omega) HS6.out.1 ?_; intro v6 w6 hown6 hg6 hat6; have HG6 := hide (H6.out.grown hg6 (fun q hq => (HOLT.out q hq).1)); have HO6 := hide hown6; clear hown6 hg6 hat6)
      obtain ⟨g6, cap6, hv6, _⟩ := HO6.out.form (by omega)
      have HV6 := hide (show lenOf v6 = out.length + 1 from by rw [hv6]; rfl)
      clear hv6
      exact ⟨⟨out ++ [(t1, t2)], t1, t2, hide HG6.out, hide (by simpa [plCells] using HO6.out), HWU, HWN, by rw [HV6.out]; simp⟩, by rw [HV6.out]; simp only [lenOf]; omega⟩
end Go.Proofs.Ytidikopjfpioaaa
