/- wireward/wirelaw.RingAll: whatever is handed in, it returns true, and leaves the input as it reads. -/
import Derived.Test.YtpfjjpihnibnhaaRa19

set_option linter.unusedVariables false
set_option linter.unusedSimpArgs false
namespace Go.Proofs.Ytpfjjpihnibnhaa
open Go.RowKit

theorem plain_kind {ds : List Dev} {ls : List LinkV} (h : plainE ds ls = 0) : ∀ d ∈ ds, d.kind = 1 ∨ d.kind = 2 := by
  unfold plainE at h
  split at h
  · split at h
    · cases h
    · intro d hd
      have h2 : ds.any (fun d => oddKind d.kind) = false := Bool.eq_false_iff.2 (by assumption)
      have := List.any_eq_false.1 h2 d hd
      simp [oddKind] at this
      omega
  · contradiction

structure RM (W : World) (n : NetV) (p : P4) (w : World) (a b : Int) : Prop where
  rw : RW W n p w a b
  g0 : w.cell? ⟨W.heap.size + 1 + 1 + 1, 0, none⟩ = some (.slice n.dA n.dn n.dc)
  g1 : w.cell? ⟨W.heap.size + 1 + 1 + 1, 1, none⟩ = some (.slice n.lA n.ln n.lc)
  z4 : W.heap.size + 4 ≤ w.heap.size
section
variable {W w w' : World} {n : NetV} {p : P4} {a b : Int}
theorem RM.below (h : RM W n p w a b) (hb : RowKit.Below w.heap.size w w') : RM W n p w' a b := by
  have hs := h.z4
  have hs2 := hb.size
  exact ⟨h.rw.below hb, (hb.cell (p := ⟨W.heap.size + 1 + 1 + 1, 0, none⟩) (by show W.heap.size + 1 + 1 + 1 < _; omega)).trans h.g0, (hb.cell (p := ⟨W.heap.size + 1 + 1 + 1, 1, none⟩) (by show W.heap.size + 1 + 1 + 1 < _; omega)).trans h.g1, by omega⟩
theorem RM.alloc (h : RM W n p w a b) (o : Obj) : RM W n p (w.alloc o) a b := h.below ((RowKit.Below.refl _ _).alloc (Nat.le_refl _) o)
theorem RM.grown (h : RM W n p w a b) {row : Option Nat} (hg : w.grownBy w' row) (hr : ∀ q, row = some q → W.heap.size + 4 ≤ q) : RM W n p w' a b := by
  have hs := h.z4
  have hs2 := hg.size
  have hb : RowKit.Below (W.heap.size + 4) w w' := (RowKit.Below.refl _ _).grown hg hs hr
  exact ⟨h.rw.grown hg (fun q hq => by have := hr q hq; omega), (hb.cell (p := ⟨W.heap.size + 1 + 1 + 1, 0, none⟩) (by show W.heap.size + 1 + 1 + 1 < _; omega)).trans h.g0, (hb.cell (p := ⟨W.heap.size + 1 + 1 + 1, 1, none⟩) (by show W.heap.size + 1 + 1 + 1 < _; omega)).trans h.g1, by omega⟩
theorem RM.set (h : RM W n p w a b) (c d : Int) : RM W n p ((w.setCell ⟨W.heap.size + 1, 0, none⟩ (.int .i64 c)).setCell ⟨W.heap.size + 1, 1, none⟩ (.int .i64 d)) c d := by
  have e : ∀ (w : World) (q : Addr) (o : Nat) (v : Value), q.block ≠ W.heap.size + 1 → (w.setCell ⟨W.heap.size + 1, o, none⟩ v).cell? q = w.cell? q := fun w q o v hq =>
    World.cell?_of_block (Below.heap_setCell w ⟨W.heap.size + 1, o, none⟩ v q.block hq)
  refine ⟨h.rw.set c d, ?_, ?_, ?_⟩
  · rw [e _ _ _ _ (by show W.heap.size + 1 + 1 + 1 ≠ _; omega), e _ _ _ _ (by show W.heap.size + 1 + 1 + 1 ≠ _; omega)]; exact h.g0
  · rw [e _ _ _ _ (by show W.heap.size + 1 + 1 + 1 ≠ _; omega), e _ _ _ _ (by show W.heap.size + 1 + 1 + 1 ≠ _; omega)]; exact h.g1
  · have hsz : ((w.setCell ⟨W.heap.size + 1, 0, none⟩ (.int .i64 c)).setCell ⟨W.heap.size + 1, 1, none⟩ (.int .i64 d)).heap.size = w.heap.size := by simp [World.setCell]
    rw [hsz]; exact h.z4
theorem RM.new (n : NetV) (p : P4) (a b : Int) (t0 t1 t2 t3 : TypeId) (v : Value) : RM W n p ((((W.alloc (.cells #[.slice n.dA n.dn n.dc, .slice n.lA n.ln n.lc] t0)).alloc (.cells #[.int .i64 a, .int .i64 b] t1)).alloc (.cells #[.int .i64 p.src, .int .i64 p.dst, .int .i64 p.sport, .int .i64 p.dport] t2)).alloc (.cells #[.slice n.dA n.dn n.dc, .slice n.lA n.ln n.lc, v] t3)) a b := by
  obtain ⟨c, h1, h2⟩ := boxesL [(#[.slice n.dA n.dn n.dc, .slice n.lA n.ln n.lc], t0), (#[.int .i64 a, .int .i64 b], t1), (#[.int .i64 p.src, .int .i64 p.dst, .int .i64 p.sport, .int .i64 p.dport], t2), (#[.slice n.dA n.dn n.dc, .slice n.lA n.ln n.lc, v], t3)] W (RowKit.Below.refl _ _)
  exact ⟨(RW.new n p a b t0 t1 t2).alloc _, c 3 _ _ rfl 0 _ rfl, c 3 _ _ rfl 1 _ rfl, h2⟩
end

def RefW (W : World) (n : NetV) (X Y : Int) (p : P4) (e : Ending) (W' : World) : Prop := RowKit.Below W.heap.size W W' ∧
  ∃ (v : Value) (r : List Pl × Bool), e = .returned (.tuple #[v, .bool r.2]) ∧ WalkTo (nextAt n.devs n.ls p) [(X, Y)] (X, Y) r ∧ W'.ownsRow W.heap.size 41 2 v r.1.length (r.1.flatMap plCells) ∧ r.1.length ≤ 40

set_option maxRecDepth 100000 in
set_option maxHeartbeats 8000000 in
theorem refWalk_walk (n : NetV) (X Y : Int) (p : P4) (W : World) (hn : NetAt W W.heap.size n) (hp : p.ok) (hpl : plainE n.devs n.ls = 0) (hpb : placeB n.devs (X, Y) = true) (hrp : rightB p = true) :
    Calls Try.prog 10 #[n.val, .agg #[.int .i64 X, .int .i64 Y], .agg #[.int .i64 p.src, .int .i64 p.dst, .int .i64 p.sport, .int .i64 p.dport]] W (RefW W n X Y p) := by
  obtain ⟨i0, hi0, hz0, hz1, hz2⟩ := info_parts Try.infoPlace
  have HNA := hide (fun (w' : World) (hb : RowKit.Below W.heap.size W w') => show NetAt w' w'.heap.size n from hn.below hb hb.size)
  have HDL := hide (show n.ds.length = n.dn from hn.dlen)
  have HP := hide (And.intro hp hrp)
  have HOK := hide (plainE_ok hpl)
  have HKD := hide (plain_kind hpl)
  have HB := hide hpb
  clear hn hp hpl hpb hrp
  obtain ⟨dA, dn, dc, ds, lA, ln, lc, ls⟩ := n
  have hd10 : dn ≤ 10 := by have := HOK.out.dl; have : ds.length = dn := HDL.out; simp only [NetV.devs, List.length_map] at *; omega
  simp only [NetV.val] at *
  go_enter Try.func10, Try.ntmps10
  go_wp2_with fail
  generalize hG : World.alloc (World.alloc (World.alloc (World.alloc W _) _) _) _ = W0
  have hm0 : RM W ⟨dA, dn, dc, ds, lA, ln, lc, ls⟩ p W0 X Y := by rw [← hG]; exact RM.new _ _ _ _ _ _ _ _ _
  have hsz0 : W0.heap.size = W.heap.size + 1 + 1 + 1 + 1 := by rw [← hG]; simp
  have ho0 := World.ownsRow_lit (e := 41) (size := 2) (base := W.heap.size + 4) W0 #[.int .i64 X, .int .i64 Y] 1 hm0.z4 (by simp [maxLen]) rfl
  rw [hsz0] at ho0
  have HM0 := hide (hm0.alloc (.cells #[.int .i64 X, .int .i64 Y] 41))
  have HO0 := hide ho0
  clear hG hm0 hsz0 ho0
  generalize World.alloc W0 _ = W0 at *
  go_loopw [9] (fun v wr => ∃ (out : List Pl) (a b : Int), Hid (RM W ⟨dA, dn, dc, ds, lA, ln, lc, ls⟩ p wr a b) ∧ Hid (wr.ownsRow (W.heap.size + 4) 41 2 v out.length (out.flatMap plCells)) ∧ Hid (∀ r, WalkTo (nextAt (NetV.devs ⟨dA, dn, dc, ds, lA, ln, lc, ls⟩) ls p) out (a, b) r → WalkTo (nextAt (NetV.devs ⟨dA, dn, dc, ds, lA, ln, lc, ls⟩) ls p) [(X, Y)] (X, Y) r) ∧ Hid (WayOk (NetV.devs ⟨dA, dn, dc, ds, lA, ln, lc, ls⟩) out (a, b)) ∧ lenOf v = out.length) (fun v _ => 41 - lenOf v)
  case atStart => exact ⟨[(X, Y)], X, Y, hide HM0.out, hide (by simpa [plCells] using HO0.out), hide (fun r h => h), hide ⟨by simp, fun y hy => by simp at hy; subst hy; exact HB.out, HB.out⟩, rfl⟩
  case round =>
    clear HO0 HB HM0
    obtain ⟨out, a, b, HRW, HO, HWT, HWO, hlen⟩ := hrel
    generalize u9 = v at *
    obtain ⟨A2, c2, rfl, hc2, _, _⟩ := SlAt.of_own plCells_len HO.out rfl
    clear hlen
    have hL : out.length ≤ 40 := HWO.out.len HOK.out.dl
    obtain ⟨hpb, hpb2, hpb3⟩ := (placeB_iff.1 HWO.out.px)
    obtain ⟨j, rfl⟩ : ∃ j : Nat, a = (j : Int) := ⟨a.toNat, by simp only at hpb; omega⟩
    obtain ⟨r, hr⟩ : ∃ r, ds[j]? = some r := ⟨_, List.getElem?_eq_getElem (by simp only [NetV.devs, List.length_map] at hpb; omega)⟩
    have hkr : r.kind = 1 ∨ r.kind = 2 := by
      have := HKD.out r.dev (by simp only [NetV.devs]; exact List.mem_map_of_mem (List.mem_of_getElem? hr))
      simpa [DevV.dev] using this
    have hk2 : kindAt (NetV.devs ⟨dA, dn, dc, ds, lA, ln, lc, ls⟩) (j : Int) = r.kind := by simp [NetV.devs, kindAt, hr, DevV.dev]
    simp only [hk2] at hpb2 hpb3
    obtain ⟨NX, hNX⟩ : ∃ NX, nextF ls r.dev (j : Int) p = NX := ⟨_, rfl⟩
    have HNT := hide (show nextAt (NetV.devs ⟨dA, dn, dc, ds, lA, ln, lc, ls⟩) ls p ((j : Int), b) = NX from by
      rw [← hNX]; simp [nextAt, NetV.devs, hr])
    have HNC := hide (handP_walk (W.heap.size + 1 + 1 + 1) ⟨dA, dn, dc, ds, lA, ln, lc, ls⟩ j b p 0 r wr (HNA.out _ HRW.out.rw.bl) hr hkr ⟨hpb2, hpb3⟩ HP.out.1 HP.out.2 hd10 (by have := HRW.out.z4; omega) HRW.out.g0 HRW.out.g1)
    simp only [hNX] at HNC
    clear hNX hr hpb hpb2 hpb3 hkr hk2
    have k2 := HRW.out.rw.at_.1
    have k3 := HRW.out.rw.at_.2.1
    obtain ⟨p0, p1, p2, p3⟩ := HRW.out.rw.pk
    go_wp2_with fail
    refine HNC.out.mono ?_
    clear HNC k2 k3 p0 p1 p2 p3
    rintro e w3 ⟨rfl, hb⟩
    have H3 := hide (HRW.out.below hb)
    have HO3 := hide (own_below HO.out hb)
    have hs3 : wr.heap.size ≤ w3.heap.size := hb.size
    have HOLT := hide (fun q (hq : (Value.slice A2 out.length c2).ownBlock = some q) => (HO.out.lt q hq))
    clear hb HRW HO
    have HO4 := hide (fun o => own_below HO3.out ((RowKit.Below.refl w3.heap.size w3).alloc (Nat.le_refl _) o))
    have H4 := hide (fun o => H3.out.alloc o)
    cases NX with
    | none =>
      have HF := hide (fun o => show RefW W ⟨dA, dn, dc, ds, lA, ln, lc, ls⟩ X Y p (.returned (.tuple #[.slice A2 out.length c2, .bool false])) (w3.alloc o) from
        ⟨(H4.out o).rw.bl, ⟨_, (out, false), rfl, HWT.out _ (.stop HNT.out), own_mono (HO4.out o) (by omega), hL⟩⟩)
      simp only [arrV]
      go_wp2
      go_ret2
      exact HF.out _
    | some to =>
      obtain ⟨t1, t2⟩ := to
      have hM : w3.heap.size ≠ W.heap.size + 1 := by have := H3.out.z4; omega
      have hM' := Ne.symm hM
      have q2 := fun o => (H4.out o).rw.at_.1
      have q3 := fun o => (H4.out o).rw.at_.2.1
      have q4 := fun o => (H4.out o).rw.at_.2.2.1
      have q5 := fun o => (H4.out o).rw.at_.2.2.2
      have HAS := hide (fun o => (H4.out o).set t1 t2)
      have HOS := hide (fun o => own_set (own_set (HO4.out o) (by show W.heap.size + 1 < _; omega) (q := ⟨W.heap.size + 1, 0, none⟩) (.int .i64 t1)) (by show W.heap.size + 1 < _; omega) (q := ⟨W.heap.size + 1, 1, none⟩) (.int .i64 t2))
      have HZS := hide (fun o => show (((w3.alloc o).setCell ⟨W.heap.size + 1, 0, none⟩ (.int .i64 t1)).setCell ⟨W.heap.size + 1, 1, none⟩ (.int .i64 t2)).heap.size = w3.heap.size + 1 from by simp [World.setCell])
      simp only [arrV]
      go_wp2_with fail
      have hAS := HAS.out (.cells #[.int .i64 t1, .int .i64 t2, .int .i64 p.src, .int .i64 p.dst, .int .i64 p.sport, .int .i64 p.dport] 87)
      have hOS := HOS.out (.cells #[.int .i64 t1, .int .i64 t2, .int .i64 p.src, .int .i64 p.dst, .int .i64 p.sport, .int .i64 p.dport] 87)
      have hZS := HZS.out (.cells #[.int .i64 t1, .int .i64 t2, .int .i64 p.src, .int .i64 p.dst, .int .i64 p.sport, .int .i64 p.dport] 87)
      clear HAS HOS HZS q2 q3 q4 q5
      generalize World.setCell (World.setCell (World.alloc w3 _) _ _) _ _ = w4 at *
      obtain ⟨ANY, hANY⟩ : ∃ B, out.any (fun z => eqP (t1, t2) z) = B := ⟨_, rfl⟩
      have HCT := hide (containsPl_any out A2 out.length c2 t1 t2 w4 (by omega) (own_sl plCells_len hOS rfl))
      simp only [hANY] at HCT
      refine HCT.out.mono ?_
      clear HCT
      rintro e w5 ⟨rfl, hb⟩
      have H5 := hide (hAS.below hb)
      have HO5 := hide (own_below hOS hb)
      have hs5 : w3.heap.size < w5.heap.size := by have := hb.size; omega
      clear hb hAS hOS hZS HO4 H4
      cases ANY
      case true =>
        have HF := hide (show RefW W ⟨dA, dn, dc, ds, lA, ln, lc, ls⟩ X Y p (.returned (.tuple #[.slice A2 out.length c2, .bool true])) w5 from
          ⟨H5.out.rw.bl, ⟨_, (out, true), rfl, HWT.out _ (.round HNT.out (by
            obtain ⟨z, hz, he⟩ := List.any_eq_true.1 hANY
            rw [(eqP_iff _ _).1 he]; exact hz)), own_mono HO5.out (by omega), hL⟩⟩)
        clear hANY
        go_wp2
        go_ret2
        exact HF.out
      have HNM := hide (show (t1, t2) ∉ out from fun hm => by
        have := List.any_eq_false.1 hANY _ hm
        rw [eqP_self] at this
        exact this rfl)
      clear hANY
      have HWN := hide (HWO.out.step HNM.out (nextAt_valid HOK.out HNT.out))
      have HWU := hide (fun r (h : WalkTo (nextAt (NetV.devs ⟨dA, dn, dc, ds, lA, ln, lc, ls⟩) ls p) (out ++ [(t1, t2)]) (t1, t2) r) => HWT.out r (.step HNT.out HNM.out h))
      obtain ⟨z0, z1, _, _⟩ := H5.out.rw.at_
      have HOL := hide (own_below HO5.out ((RowKit.Below.refl w5.heap.size w5).alloc (Nat.le_refl _) (.cells #[.int .i64 t1, .int .i64 t2] 41)))
      have H6 := hide (H5.out.alloc (.cells #[.int .i64 t1, .int .i64 t2] 41))
      have HLIT := hide (show Reads (w5.alloc (.cells #[.int .i64 t1, .int .i64 t2] 41)) (w5.heap.size + 1) 2 (some ⟨w5.heap.size, 0, none⟩) 1 [.int .i64 t1, .int .i64 t2] from
        ⟨rfl, fun _ => ⟨_, rfl, Nat.lt_succ_self _, fun j u hu => by
          rw [addr_add, Nat.zero_add, cell_of_row _ _ _ _ _ _ (heap_alloc_new w5 _)]
          simpa using hu⟩⟩)
      have hs6 := H6.out.z4
      have hsz6 : (w5.alloc (.cells #[.int .i64 t1, .int .i64 t2] 41)).heap.size = w5.heap.size + 1 := by simp
      have HS6 := hide (And.intro hs6 hsz6)
      clear hs6 hsz6 H5 HO5
      go_wp2_with (at_builtin; refine wpList_append_any _ rfl (.tmp 33) (.tmp 35) 37 rfl (W.heap.size + 4) 41 i0 _ 2 16 Try.underlying37 hi0 hz0 hz1 hz2 rfl (by omega) (.slice A2 out.length c2) out.length (out.flatMap plCells) rfl HOL.out (w5.heap.size + 1) (some ⟨w5.heap.size, 0, none⟩) 1 1 [.int .i64 t1, .int .i64 t2] rfl HLIT.out (by intro u hu; simp at hu; rcases hu with rfl | rfl <;> rfl) (by simp only [maxLen]; omega) (by omega) HS6.out.1 ?_; intro v6 w6 hown6 hg6 hat6; have HG6 := hide (H6.out.grown hg6 (fun q hq => (HOLT.out q hq).1)); have HO6 := hide hown6; clear hown6 hg6 hat6)
      obtain ⟨g6, cap6, hv6, _⟩ := HO6.out.form (by omega)
      have HV6 := hide (show lenOf v6 = out.length + 1 from by rw [hv6]; rfl)
      clear hv6
      exact ⟨⟨out ++ [(t1, t2)], t1, t2, hide HG6.out, hide (by simpa [plCells] using HO6.out), HWU, HWN, by rw [HV6.out]; simp⟩, by rw [HV6.out]; simp only [lenOf]; omega⟩
end Go.Proofs.Ytpfjjpihnibnhaa

set_option linter.unusedVariables false
set_option linter.unusedSimpArgs false
namespace Go.Proofs.Ytpfjjpihnibnhaa
open Go.RowKit Go.Maps Bdd

def TrueQ (W : World) (e : Ending) (W' : World) : Prop := e = .returned (.bool true) ∧ RowKit.Below W.heap.size W W'
theorem right_nat (a b x y : Nat) (h1 : a ≤ 15) (h2 : b ≤ 15) (h3 : x ≤ 7) (h4 : y ≤ 7) : rightB ⟨(a : Int), (b : Int), (x : Int), (y : Int)⟩ = true := by
  simp only [rightB, inR, Bool.and_eq_true, decide_eq_true_eq]
  omega
theorem pk_right (c : Nat) (hc : c < 16384) : rightB (pk c) = true := right_nat (c / 1024) (c / 64 % 16) (c / 8 % 8) (c % 8) (by omega) (by omega) (by omega) (by omega)
theorem pk_ok (c : Nat) (hc : c < 16384) : (pk c).ok := by
  refine ⟨?_, ?_, ?_, ?_⟩ <;> (simp only [i64ok, pk]; omega)
def cntTo (S : Bdd.Fn) (x : Nat) : Nat := (List.range x).countP (fun r => S (asgV 14 r))
theorem cntTo_succ (S : Bdd.Fn) (x : Nat) : cntTo S (x + 1) = cntTo S x + if S (asgOf x) = true then 1 else 0 := by
  unfold cntTo
  rw [List.range_succ, List.countP_append]
  congr 1
  show List.countP _ [x] = _
  rw [List.countP_cons, List.countP_nil]
  have e : asgV 14 x = asgOf x := rfl
  simp [e]
theorem cntTo_le (S : Bdd.Fn) (x : Nat) : cntTo S x ≤ x := by
  have := List.countP_le_length (p := fun r => S (asgV 14 r)) (l := List.range x)
  simpa [cntTo] using this

set_option maxRecDepth 100000 in
set_option maxHeartbeats 8000000 in
theorem ringAllLaw_walk (n : NetV) (most : Int) (W : World) (hn : NetAt W W.heap.size n) : Calls Try.prog 3 #[n.val, .int .i64 most] W (TrueQ W) := by
  obtain ⟨i0, hi0, hz0, hz1, hz2⟩ := info_parts Try.infoInt
  have HNW := hide (fun (w' : World) (hb : RowKit.Below W.heap.size W w') => show NetAt w' w'.heap.size n from hn.below hb hb.size)
  have hro : ∀ d ∈ n.devs, ∀ r ∈ d.rules, r.ok := fun d hd r hr => by
    obtain ⟨dv, hdv, rfl⟩ := List.mem_map.1 hd
    exact (hn.dok dv hdv).rs.2.1 r hr
  have HRO := hide hro
  have HDL := hide (show n.ds.length = n.dn from hn.dlen)
  clear hn hro
  obtain ⟨dA, dn, dc, ds, lA, ln, lc, ls⟩ := n
  simp only [NetV.val, NetV.devs] at *
  go_enter Try.func3, Try.ntmps3
  go_wp2_with fail
  have hb0 := below_alloc2 W (.cells #[.slice dA dn dc, .slice lA ln lc] 25)
  have HX0 := hide (Bx.new W #[.slice dA dn dc, .slice lA ln lc] 25)
  refine (ringAll_walk ⟨dA, dn, dc, ds, lA, ln, lc, ls⟩ most _ (HNW.out _ hb0)).mono ?_
  rintro e w2 ⟨hb, hres⟩
  have HB2 := hide (hb0.trans (hb.mono hb0.size))
  have HX2 := hide (HX0.out.below hb)
  have hsz0 := hb0.size
  clear hb hb0 HX0
  have x0 : w2.cell? ⟨W.heap.size, 0, none⟩ = some (.slice dA dn dc) := HX2.out.get 0 _ rfl
  have x1 : w2.cell? ⟨W.heap.size, 1, none⟩ = some (.slice lA ln lc) := HX2.out.get 1 _ rfl
  simp only [NetV.devs] at hres
  rcases hres with ⟨hE, rfl⟩ | ⟨hE, hM, rfl⟩ | ⟨hE, hM, rfl⟩ | ⟨hE, hM, v, S, rfl, hI, hfix, hown⟩
  · go_wp2_with fail
    refine (refPlain_walk ⟨dA, dn, dc, ds, lA, ln, lc, ls⟩ w2 (HNW.out w2 HB2.out)).mono ?_
    rintro e w3 ⟨rfl, hb⟩
    have HB3 := hide (HB2.out.trans (hb.mono HB2.out.size))
    have HX3 := hide (HX2.out.below hb)
    skip
    clear hb x0 x1
    simp only [NetV.devs]
    generalize plainE (ds.map DevV.dev) ls = E at *
    have e1 : (E == 0) = false := by simpa using hE
    have e2 : (E != 0) = true := by simpa using hE
    clear hE
    go_wp2
    go_ret
    exact ⟨ret_bool (by simp), HB3.out⟩
  · go_wp2_with fail
    refine (refPlain_walk ⟨dA, dn, dc, ds, lA, ln, lc, ls⟩ w2 (HNW.out w2 HB2.out)).mono ?_
    rintro e w3 ⟨rfl, hb⟩
    have HB3 := hide (HB2.out.trans (hb.mono HB2.out.size))
    have HX3 := hide (HX2.out.below hb)
    skip
    clear hb x0 x1
    have hin : inR most 2 40000 = false := by unfold badMost at hM; simp only [inR, Bool.and_eq_false_iff, decide_eq_false_iff_not]; omega
    have HIN := hide (fun w => inR_is w hin)
    simp only [NetV.devs, hE]
    clear hE hM hin
    go_wp2_with (first | (go_at_call_of 8 (Value.int .i64 40000); refine (HIN.out _).mono ?_; rintro e w' ⟨rfl, rfl⟩))
    go_ret
    exact ⟨ret_bool (by simp), HB3.out⟩
  · go_wp2_with fail
    refine (refPlain_walk ⟨dA, dn, dc, ds, lA, ln, lc, ls⟩ w2 (HNW.out w2 HB2.out)).mono ?_
    rintro e w3 ⟨rfl, hb⟩
    have HB3 := hide (HB2.out.trans (hb.mono HB2.out.size))
    have HX3 := hide (HX2.out.below hb)
    skip
    clear hb x0 x1
    have hin : inR most 2 40000 = true := by unfold badMost at hM; simp only [inR, Bool.and_eq_true, decide_eq_true_eq]; omega
    have HIN := hide (fun w => inR_is w hin)
    simp only [NetV.devs, hE]
    clear hE hM hin
    go_wp2_with (first | (go_at_call_of 8 (Value.int .i64 40000); refine (HIN.out _).mono ?_; rintro e w' ⟨rfl, rfl⟩))
    go_ret
    exact ⟨ret_bool (by simp), HB3.out⟩
  · have hdl10 : ds.length ≤ 10 := by have := (plainE_ok hE).dl; simpa using this
    obtain ⟨A1, c1, rfl, hc1, _⟩ := ints_of_own (dl := (allPl (ds.map DevV.dev) (ds.map DevV.dev).length).map fun x => cntF 14 14 (S x)) (by simpa using hown) (fun x hx => by
      obtain ⟨z, _, rfl⟩ := List.mem_map.1 hx
      have := cntF_le 14 14 (S z)
      omega)
    have HCS := hide (show ((allPl (ds.map DevV.dev) (ds.map DevV.dev).length).map fun x => cntF 14 14 (S x)).length = (allPl (ds.map DevV.dev) (ds.map DevV.dev).length).length from by simp)
    have hcl := allPl_len (ds.map DevV.dev) (ds.map DevV.dev).length
    generalize hcs : (allPl (ds.map DevV.dev) (ds.map DevV.dev).length).map (fun x => cntF 14 14 (S x)) = cs at *
    have HCD := hide hcs
    rw [← HCS.out] at hown
    have hcsl : cs.length ≤ 40 := by rw [HCS.out]; have e : (ds.map DevV.dev).length = ds.length := List.length_map ..; omega
    clear hcs hcl
    generalize hcl : cs.length = cl at *
    have HCL := hide hcl
    clear hcl
    have HOW2 := hide (own_mono hown hsz0)
    have HS := hide (And.intro hI hfix)
    have HE := hide hE
    clear hI hfix hown
    go_wp2_with fail
    refine (refPlain_walk ⟨dA, dn, dc, ds, lA, ln, lc, ls⟩ w2 (HNW.out w2 HB2.out)).mono ?_
    rintro e w3 ⟨rfl, hb⟩
    have HB3 := hide (HB2.out.trans (hb.mono HB2.out.size))
    have HX3 := hide (HX2.out.below hb)
    have HOW3 := hide (own_below HOW2.out hb)
    clear hb x0 x1
    have hin : inR most 2 40000 = true := by unfold badMost at hM; simp only [inR, Bool.and_eq_true, decide_eq_true_eq]; omega
    have HIN := hide (fun w => inR_is w hin)
    simp only [NetV.devs, hE]
    clear hE hM hin
    have x0 : w3.cell? ⟨W.heap.size, 0, none⟩ = some (.slice dA dn dc) := HX3.out.get 0 _ rfl
    have hdn10 : dn ≤ 10 := by have := HDL.out; omega
    go_wp2_with (first | (go_at_call_of 8 (Value.int .i64 40000); refine (HIN.out _).mono ?_; rintro e w' ⟨rfl, rfl⟩))
    clear x0 HIN HB2 HX2
    have HW3 := hide (fun (w' : World) (hb : RowKit.Below w3.heap.size w3 w') => show RowKit.Below W.heap.size W w' from HB3.out.trans (hb.mono HB3.out.size))
    go_loopw [8, 53] (fun u i wr => ∃ (k : Nat) (v5 : Value), k ≤ dn ∧ i = .int .i64 (k : Int) ∧ u = v5 ∧ Hid (wr.ownsRow w3.heap.size 3 1 v5 (allPl (ds.map DevV.dev) k).length (intCells ((allPl (ds.map DevV.dev) k).map fun x => cntF 14 14 (S x)))) ∧ Hid (RowKit.Below w3.heap.size w3 wr)) (fun _ i _ => dn - (intOf i).toNat)
    case atStart => exact ⟨0, _, Nat.zero_le _, rfl, rfl, hide (World.ownsRow_nil _ _ _ _), hide (RowKit.Below.refl _ _)⟩
    case round =>
      obtain ⟨k, v5, hk, rfl, rfl, HO, HB⟩ := hrel
      generalize u8 = v5 at *
      by_cases hlt : k < dn
      · obtain ⟨r, hr⟩ : ∃ r, ds[k]? = some r := ⟨_, List.getElem?_eq_getElem (by have := HDL.out; omega)⟩
        have hka : kindAt (ds.map DevV.dev) (k : Int) = r.kind := by simp [kindAt, hr, DevV.dev]
        have hna := HNW.out wr (HW3.out _ HB.out)
        obtain ⟨b, o, rfl, _, _⟩ := hna.ds.2 (by show 0 < dn; omega)
        obtain ⟨_, q0, q1, q2, q3, q4, q5, q6⟩ := dev_get hna.ds hr
        obtain ⟨nm, kd, ad, pl, bA, bn, bc, bs, rA, rn, rc, rs, tA, tn, tc, ts⟩ := r
        simp only at q0 q1 q2 q3 q4 q5 q6 hka
        have HKA := hide hka
        have hpn : portsF kd = ((portsN (ds.map DevV.dev) k : Nat) : Int) := by
          have := portsF_range kd
          unfold portsN; rw [hka]; omega
        have hpn4 := portsN_le (ds.map DevV.dev) k
        have hks4 := allPl_len (ds.map DevV.dev) k
        generalize hPN : portsN (ds.map DevV.dev) k = PN at *
        have HPN := hide hPN
        have HPE := hide hpn
        clear hPN hka hna hr
        have HPW := hide (fun (w' : World) => refPorts_walk kd w')
        simp only [hpn] at HPW
        have hb8 := below_alloc2 wr (.cells #[.string nm, .int .i64 kd, .int .i64 ad, .int .u8 pl, .slice bA bn bc, .slice rA rn rc, .slice tA tn tc] 35)
        have HO8 := hide (own_below HO.out hb8)
        have HB8 := hide (HB.out.trans (hb8.mono HB.out.size))
        clear HO HB hpn hb8
        go_wp2_with fail
        refine (HPW.out _).mono ?_
        clear HPW q0 q1 q2 q3 q4 q5 q6
        rintro e w9 ⟨rfl, hb⟩
        have HO9 := hide (own_below HO8.out hb)
        have HB9 := hide (HB8.out.trans (hb.mono HB8.out.size))
        clear hb HO8 HB8
        go_wp2_with fail
        go_loopw [8, 61] (fun u i wr => ∃ (j : Nat) (v6 : Value), j ≤ PN ∧ i = .int .i64 (j : Int) ∧ u = v6 ∧ Hid (wr.ownsRow w3.heap.size 3 1 v6 (allPl (ds.map DevV.dev) k ++ rowPl k j).length (intCells ((allPl (ds.map DevV.dev) k ++ rowPl k j).map fun x => cntF 14 14 (S x)))) ∧ Hid (RowKit.Below w3.heap.size w3 wr)) (fun _ i _ => PN - (intOf i).toNat)
        case atStart => exact ⟨0, v5, Nat.zero_le _, rfl, rfl, hide (by simpa [rowPl] using HO9.out), HB9⟩
        case round =>
          clear HO9 HB9
          obtain ⟨j, v6, hj, rfl, rfl, HO, HB⟩ := hrel
          generalize u8 = v6 at *
          by_cases hltj : j < PN
          · have hpl : placeB (ds.map DevV.dev) ((k : Int), (j : Int)) = true := by
              rw [placeB_iff]
              refine ⟨⟨by simp, ?_⟩, by simp, ?_⟩
              · have := HDL.out; simp; omega
              · show ((j : Nat) : Int) < portsF (kindAt (ds.map DevV.dev) (k : Int))
                rw [HKA.out, HPE.out]; omega
            have HPL := hide hpl
            clear hpl
            go_wp2_with fail
            go_loopw [12, 64] (fun u i wr => ∃ (x : Nat), x ≤ 16384 ∧ i = .int .i64 (x : Int) ∧ u = .int .i64 ((cntTo (S ((k : Int), (j : Int))) x : Nat) : Int) ∧ Hid (wr.ownsRow w3.heap.size 3 1 v6 (allPl (ds.map DevV.dev) k ++ rowPl k j).length (intCells ((allPl (ds.map DevV.dev) k ++ rowPl k j).map fun x => cntF 14 14 (S x)))) ∧ Hid (RowKit.Below w3.heap.size w3 wr)) (fun _ i _ => 16384 - (intOf i).toNat)
            case atStart => exact ⟨0, by omega, rfl, rfl, HO, HB⟩
            case round =>
              clear HO HB
              obtain ⟨x, hx, rfl, rfl, HO, HB⟩ := hrel
              by_cases hltx : x < 16384
              · have HC := hide (fun (w' : World) (hb : RowKit.Below wr.heap.size wr w') => have hx := HX3.out.below (HB.out.trans (hb.mono HB.out.size)); show w'.cell? ⟨W.heap.size, 0, none⟩ = some (.slice (some ⟨b, o, none⟩) dn dc) ∧ w'.cell? ⟨W.heap.size, 1, none⟩ = some (.slice lA ln lc) from ⟨hx.get 0 _ rfl, hx.get 1 _ rfl⟩)
                have HWW := hide (fun (w' : World) (hb : RowKit.Below w3.heap.size w3 w') => refWalk_walk ⟨some ⟨b, o, none⟩, dn, dc, ds, lA, ln, lc, ls⟩ (k : Int) (j : Int) (pk x) w' (HNW.out w' (HW3.out _ hb)) (pk_ok x hltx) HE.out HPL.out (pk_right x hltx))
                simp only [NetV.val] at HWW
                have HPW := hide (fun (w' : World) => packet_walk w' x hltx)
                rw [pk_val] at HPW
                have hcle := cntTo_le (S ((k : Int), (j : Int))) x
                have HCS2 := hide (cntTo_succ (S ((k : Int), (j : Int))) x)
                go_wp2_with fail
                refine wp_region_E (fun w' => RowKit.Below wr.heap.size wr w') 6 (by kernel_rfl) ((RowKit.Below.refl _ _).drew) (fun hS inv => ?_)
                refine wpAnyE_load (i := 0) (v := ?_) [6] rfl (by kernel_rfl) (by kernel_rfl) (by kernel_rfl) (by kernel_rfl) (fun _ _ _ h => h) inv (Or.inl ⟨by rfl, ?_⟩) hS (fun inv2 => ?_)
                rotate_left
                · intro w hSw
                  obtain ⟨s0, s1⟩ := HC.out _ hSw
                  go_simp
                  try with_reducible rfl
                clear inv
                have inv := inv2
                clear inv2
                try simp only [Act.put, nrmA, nrmB, nrmC]
                refine wpAnyE_pure (i := 1) (v := ?_) rfl (by kernel_rfl) (by kernel_rfl) (by kernel_rfl) (by kernel_rfl) (fun _ _ _ h => h) inv (Or.inl ⟨by rfl, ?_⟩) (fun _ => hS) (fun inv2 => ?_)
                rotate_left
                · intro w _
                  go_simp
                  try with_reducible rfl
                clear inv
                have inv := inv2
                clear inv2
                try simp only [Act.put, nrmA, nrmB, nrmC]
                refine wpAnyE_pure (i := 2) (v := ?_) rfl (by kernel_rfl) (by kernel_rfl) (by kernel_rfl) (by kernel_rfl) (fun _ _ _ h => h) inv (Or.inl ⟨by rfl, ?_⟩) (fun _ => hS) (fun inv2 => ?_)
                rotate_left
                · intro w _
                  go_simp
                  try with_reducible rfl
                clear inv
                have inv := inv2
                clear inv2
                try simp only [Act.put, nrmA, nrmB, nrmC]
                refine wpAnyE_pure (i := 3) (v := ?_) rfl (by kernel_rfl) (by kernel_rfl) (by kernel_rfl) (by kernel_rfl) (fun _ _ _ h => h) inv (Or.inl ⟨by rfl, ?_⟩) (fun _ => hS) (fun inv2 => ?_)
                rotate_left
                · intro w _
                  go_simp
                  try with_reducible rfl
                clear inv
                have inv := inv2
                clear inv2
                try simp only [Act.put, nrmA, nrmB, nrmC]
                refine wpAnyE_pure (i := 4) (v := ?_) rfl (by kernel_rfl) (by kernel_rfl) (by kernel_rfl) (by kernel_rfl) (fun _ _ _ h => h) inv (Or.inl ⟨by rfl, ?_⟩) (fun _ => hS) (fun inv2 => ?_)
                rotate_left
                · intro w _
                  go_simp
                  try with_reducible rfl
                clear inv
                have inv := inv2
                clear inv2
                try simp only [Act.put, nrmA, nrmB, nrmC]
                refine wpAnyE_one (i := 5) rfl (by kernel_rfl) inv (fun K hK => ?_)
                go_simp
                refine (HPW.out _).mono ?_
                rintro e wa ⟨rfl, hba⟩
                have hSa := hS.trans (hba.mono hS.size)
                clear hba
                go_simp
                refine hK.out _ _ (fun _ => hSa) (fun inv2 => ?_)
                clear hK K hS
                clear inv
                have inv := inv2
                clear inv2
                try simp only [Act.put, nrmA, nrmB, nrmC]
                have hS := hSa
                clear hSa
                refine wpAnyE_late (i := 6) rfl (by kernel_rfl) inv (by kernel_rfl) (fun K hK => ?_)
                go_simp
                have hWS := HB.out.trans (hS.mono HB.out.size)
                refine (HWW.out _ hWS).mono ?_
                rintro e wb ⟨hb, vv, rr, rfl, hwt, _, _⟩
                have hS2 : RowKit.Below wr.heap.size wr wb := hS.trans (hb.mono hS.size)
                have HRR := hide ((HS.out.1.last (plainE_ok HE.out) HRO.out HS.out.2 hltx HPL.out hwt).symm : rr.2 = S ((k : Int), (j : Int)) (asgOf x))
                clear hS hb hWS hwt
                have hS := hS2
                clear hS2
                go_simp
                refine hK.out _ _ (fun inv2 => ?_)
                clear hK K
                clear inv
                have inv := inv2
                clear inv2
                try simp only [Act.put, nrmA, nrmB, nrmC]
                refine wpAnyE_late (i := 7) rfl (by kernel_rfl) inv (by kernel_rfl) (fun K hK => ?_)
                go_simp
                refine hK.out _ _ (fun inv2 => ?_)
                clear hK K
                clear inv
                have inv := inv2
                clear inv2
                try simp only [Act.put, nrmA, nrmB, nrmC]
                refine wpAnyE_pure (i := 8) (v := ?_) rfl (by kernel_rfl) (by kernel_rfl) (by kernel_rfl) (by kernel_rfl) (fun _ _ _ h => h) inv (Or.inl ⟨by rfl, ?_⟩) (fun _ => hS) (fun inv2 => ?_)
                rotate_left
                · intro w _
                  go_simp
                  try with_reducible rfl
                clear inv
                have inv := inv2
                clear inv2
                try simp only [Act.put, nrmA, nrmB, nrmC]
                refine wpAnyE_pure (i := 9) (v := ?_) rfl (by kernel_rfl) (by kernel_rfl) (by kernel_rfl) (by kernel_rfl) (fun _ _ _ h => h) inv (Or.inl ⟨by rfl, ?_⟩) (fun _ => hS) (fun inv2 => ?_)
                rotate_left
                · intro w _
                  go_simp
                  try with_reducible rfl
                clear inv
                have inv := inv2
                clear inv2
                try simp only [Act.put, nrmA, nrmB, nrmC]
                refine wpAnyE_late (i := 10) rfl (by kernel_rfl) inv (by kernel_rfl) (fun K hK => ?_)
                go_simp
                refine hK.out _ _ (fun inv2 => ?_)
                clear hK K
                clear inv
                have inv := inv2
                clear inv2
                try simp only [Act.put, nrmA, nrmB, nrmC]
                refine wpAnyE_late (i := 11) rfl (by kernel_rfl) inv (by kernel_rfl) (fun K hK => ?_)
                go_simp
                refine hK.out _ _ (fun inv2 => ?_)
                clear hK K
                clear inv
                have inv := inv2
                clear inv2
                try simp only [Act.put, nrmA, nrmB, nrmC]
                refine wpAnyE_done (by kernel_rfl) ?_ _
                clear inv
                have HO9 := hide (own_below HO.out hS)
                have HB9 := hide (HB.out.trans (hS.mono HB.out.size))
                clear hS HO HB HWW HPW HC
                generalize cntTo (S ((k : Int), (j : Int))) x = cc at *
                rw [← HRR.out] at HCS2
                clear HRR
                obtain ⟨r1, r2⟩ := rr
                cases r2
                · have HN := hide (show cntTo (S ((k : Int), (j : Int))) (x + 1) = cc from by simpa using HCS2.out)
                  go_wp2
                  go_roundw
                  case rel => exact ⟨x + 1, by omega, by go_num, by rw [HN.out], HO9, HB9⟩
                  case measure => simp [intOf]; omega
                · have HN := hide (show cntTo (S ((k : Int), (j : Int))) (x + 1) = cc + 1 from by simpa using HCS2.out)
                  go_wp2
                  go_roundw
                  case rel => exact ⟨x + 1, by omega, by go_num, by rw [HN.out]; go_num, HO9, HB9⟩
                  case measure => simp [intOf]; omega
              · obtain rfl : x = 16384 := by omega
                have hcn : cntTo (S ((k : Int), (j : Int))) 16384 = cntF 14 14 (S ((k : Int), (j : Int))) := rfl
                rw [hcn]
                clear hcn
                have hb := below_alloc2 wr (.cells #[.int .i64 ((cntF 14 14 (S ((k : Int), (j : Int))) : Nat) : Int)] 3)
                have HOL := hide (own_below HO.out hb)
                have HBL := hide (HB.out.trans (hb.mono HB.out.size))
                have HLIT := hide (show Reads (wr.alloc (.cells #[.int .i64 ((cntF 14 14 (S ((k : Int), (j : Int))) : Nat) : Int)] 3)) (wr.heap.size + 1) 1 (some ⟨wr.heap.size, 0, none⟩) 1 [.int .i64 ((cntF 14 14 (S ((k : Int), (j : Int))) : Nat) : Int)] from
                  ⟨rfl, fun _ => ⟨_, rfl, Nat.lt_succ_self _, fun j u hu => by
                    rw [addr_add, Nat.zero_add, cell_of_row _ _ _ _ _ _ (heap_alloc_new wr _)]
                    simpa using hu⟩⟩)
                have hbs := HBL.out.size
                have hln : (allPl (ds.map DevV.dev) k ++ rowPl k j).length ≤ 80 := by simp [rowPl]; omega
                clear hb HO HB
                have HKS := hide (show intCells ((allPl (ds.map DevV.dev) k ++ rowPl k (j + 1)).map fun x => cntF 14 14 (S x)) = intCells ((allPl (ds.map DevV.dev) k ++ rowPl k j).map fun x => cntF 14 14 (S x)) ++ [.int .i64 ((cntF 14 14 (S ((k : Int), (j : Int))) : Nat) : Int)] from by rw [rowPl_succ]; simp [intCells])
                have HKN := hide (show (allPl (ds.map DevV.dev) k ++ rowPl k (j + 1)).length = (allPl (ds.map DevV.dev) k ++ rowPl k j).length + 1 from by rw [rowPl_succ]; simp; omega)
                generalize allPl (ds.map DevV.dev) k ++ rowPl k j = ks at *
                have HLO := hide (fun q (hq : v6.ownBlock = some q) => (HOL.out.lt q hq).1)
                go_wp2_with (at_builtin; refine wpList_append_any _ rfl (.tmp 81) (.tmp 83) 26 rfl w3.heap.size 3 i0 _ 1 8 Try.underlying26 hi0 hz0 hz1 hz2 rfl (by omega) v6 ks.length (intCells (ks.map fun x => cntF 14 14 (S x))) rfl HOL.out (wr.heap.size + 1) (some ⟨wr.heap.size, 0, none⟩) 1 1 [.int .i64 ((cntF 14 14 (S ((k : Int), (j : Int))) : Nat) : Int)] rfl HLIT.out (by intro u hu; simp at hu; subst hu; rfl) (by simp only [maxLen]; omega) (by omega) hbs ?_; intro v9 wa hown9 hg9 hat9; have HT := hide (And.intro hown9 hg9); clear hown9 hg9 hat9)
                go_roundw
                case rel => exact ⟨j + 1, v9, by omega, by go_num, rfl, hide (by rw [HKS.out, HKN.out]; exact HT.out.1), hide (grow_new HBL.out (Nat.le_refl _) HT.out.2 HLO.out)⟩
                case measure => simp [intOf]; omega
          · obtain rfl : j = PN := by omega
            go_wp2_with fail
            go_roundw
            case rel => exact ⟨k + 1, v6, by omega, by go_num, rfl, hide (by rw [allPl_succ, HPN.out]; exact HO.out), HB⟩
            case measure => simp [intOf]; omega
      · obtain rfl : k = dn := by omega
        have hlen : (ds.map DevV.dev).length = k := by simp [HDL.out]
        have hcd := HCD.out
        rw [hlen] at hcd
        have ho5 := HO.out
        rw [hcd] at ho5
        have e5 : (allPl (ds.map DevV.dev) k).length = cs.length := by rw [← hcd]; simp
        rw [e5] at ho5
        obtain ⟨A5, c5, ev5, hc5, hi5⟩ := ints_of_own (dl := cs) ho5 (fun x hx => by
          rw [← hcd] at hx
          obtain ⟨z, _, rfl⟩ := List.mem_map.1 hx
          have := cntF_le 14 14 (S z)
          omega)
        have HL := hide (own_below HOW3.out HB.out)
        obtain ⟨A6, c6, e6, hc6, hi6⟩ := ints_of_own (dl := cs) (by rw [HCL.out]; exact HL.out) (fun x hx => by
          rw [← hcd] at hx
          obtain ⟨z, _, rfl⟩ := List.mem_map.1 hx
          have := cntF_le 14 14 (S z)
          omega)
        rw [HCL.out] at hi5 hi6 hc5 e6 ev5
        subst ev5
        simp only [Value.slice.injEq] at e6
        obtain ⟨rfl, _, rfl⟩ := e6
        have HEQ := hide (fun (w' : World) (hb : RowKit.Below wr.heap.size wr w') => equal_yes (cs.map fun (k : Nat) => (k : Int)) A1 A5 cl c1 c5 w' (by omega) (hi6.below hb hb.size) (hi5.below hb hb.size))
        have HF := hide (HW3.out _ HB.out)
        clear hi5 hi6 ho5 hcd hlen e5
        go_wp2_with fail
        refine (HEQ.out wr (RowKit.Below.refl _ _)).mono ?_
        rintro e w7 ⟨rfl, hb⟩
        have HF2 := hide (HF.out.trans (hb.mono HF.out.size))
        clear hb
        go_wp2
        go_ret
        exact ⟨rfl, HF2.out⟩
end Go.Proofs.Ytpfjjpihnibnhaa

set_option linter.unusedVariables false
set_option linter.unusedSimpArgs false
namespace Go.Proofs.Ytpfjjpihnibnhaa
open Go.ChangeShapes Go.WideShapes Go.ChangeAt Go.RowKit Go.Maps

set_option maxRecDepth 100000 in
theorem ringAll_lifted (os : Os) (started : os.Started) (H : Type) (enc : TypeId × Value → H) :
    ReturnsInHanded {} Try.checked os 3 .any (Rows.ringAllSpec.pre6 enc Try.prog Try.f3 Rows.ringAllRow.domain false) (Rows.ringAllSpec.post enc Try.prog Try.f3 false true false false) :=
  law_lifted (C := Try.checked) (tb := 4) Try.own started (by kernel_rfl) Try.func3 Try.laidOut (by kernel_rfl) rfl (by kernel_rfl) Try.underlying4
    (fun ds h => by
      match ds, h with
      | [_, _], _ => exact ⟨rfl, rfl, rfl⟩)
    (ChangeSpec.witness6 (enc := enc) (C := Try.checked) false ⟨#[], #[.agg #[.slice none 0 0, .slice none 0 0], .int .i64 0], []⟩ 8 (by kernel_rfl) (by kernel_rfl) (by kernel_rfl) (by kernel_rfl))
    (fun W base args ds p hval0 hA0 hlt hsz => by
      have hval : ∀ (j : Nat) t v, Try.f3.params[j]? = some t → args[j]? = some v → Value.okWide Try.prog W .any base t v := hval0
      have hA : DataW.TrodAll enc Try.prog W 0 (fun _ => true) true Try.f3.params.toList args.toList ds p := hA0
      rw [Try.params3] at hA hval
      obtain ⟨v0, vs0, d0, ds0, p0, q0, hargs, rfl, rfl, h0, r0⟩ := args_cons hA
      obtain ⟨v1, vs1, d1, ds1, p1, q1, rfl, rfl, rfl, h1, r1⟩ := args_cons r0
      obtain ⟨rfl, rfl, rfl⟩ := args_nil r1
      obtain rfl : args = #[v0, v1] := arr_eq hargs
      obtain ⟨n0, hn0, rfl⟩ := open_net (hval 0 _ v0 rfl rfl) h0
      obtain ⟨x1, rfl, hx1⟩ := open_i64 (hval 1 _ v1 rfl rfl) h1
      exact ringAllLaw_walk n0 x1 W hn0)

theorem ringAll_holds : Rows.RingAllSaid :=
  OpenClaim.holds_of_wide 3 Try.f3 rfl rfl rfl rfl rfl rfl rfl ⟨rfl, rfl, rfl, rfl, rfl⟩ rfl rfl rfl rfl rfl (by kernel_rfl) Try.func3 (by kernel_rfl)
    (of_decide_eq_true (by kernel_rfl)) (by unfold Func.isWrapper; first | (rw [if_pos (by decide +kernel)]; kernel_rfl) | (rw [if_neg (by decide +kernel)]; exact ⟨rfl, rfl⟩))
    (fun os started H enc _ => ringAll_lifted os started H enc)
end Go.Proofs.Ytpfjjpihnibnhaa
