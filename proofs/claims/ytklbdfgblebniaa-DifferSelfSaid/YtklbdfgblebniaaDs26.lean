/- A part of the proof: Df2. -/
import Derived.Test.YtklbdfgblebniaaDs25

set_option linter.unusedVariables false
set_option linter.unusedSimpArgs false
namespace Go.Proofs.Ytklbdfgblebniaa
open Go.RowKit Go.Maps Bdd

set_option maxRecDepth 100000 in
theorem sideClos_walk (x : DevV) (nm : ByteArray) (k : Nat) (w : World) (hk : k < w.heap.size) (h0 : w.cell? ⟨k, 0, none⟩ = some (.string nm)) :
    Calls Try.prog 59 (#[x.val] ++ #[.pointer (some ⟨k, 0, none⟩)]) w fun e W' => e = .returned (.bool (decide (x.kind = 1) && nameEq x.name nm)) ∧ Below w.heap.size w W' := by
  have hne : k ≠ w.heap.size := by omega
  obtain ⟨xn, xk, xa, xp, bA, bn, bc, bs, rA, rn, rc, rs, tA, tn, tc, ts⟩ := x
  show Calls Try.prog 59 #[.agg #[.string xn, .int .i64 xk, .int .i64 xa, .int .u8 xp, .slice bA bn bc, .slice rA rn rc, .slice tA tn tc], .pointer (some ⟨k, 0, none⟩)] w _
  have HB := hide (fun o => show Below w.heap.size w (w.alloc o) from (Below.refl _ _).alloc (Nat.le_refl _) _)
  have hk1 : ∀ o, (w.alloc o).cell? ⟨k, 0, none⟩ = some (.string nm) := fun o => (((Below.refl _ _).alloc (Nat.le_refl _) o).cell (p := ⟨k, 0, none⟩) hk).trans h0
  by_cases ek : xk = 1
  · subst ek
    by_cases e : xn.toList = nm.toList
    all_goals
      go_enter Try.func59, Try.ntmps59
      go_wp2
      go_ret
      exact ⟨ret_bool (by simp [nameEq, e]), HB.out _⟩
  · have ek2 : (xk == 1) = false := by simpa using ek
    go_enter Try.func59, Try.ntmps59
    go_wp2
    go_ret
    exact ⟨ret_bool (by simp [ek]), HB.out _⟩
structure SideIs (ds : List Dev) (ls : List LinkV) (nm : ByteArray) (v : Nat → Bool) (K : Nat) : Prop where
  chk : chkE nm ds ls = 0
  near : NearIs ls (hostI nm ds).toNat v
  fix : roundS (pickD v ds ds.length) (pickL v ds.length ls) (K + 1) = roundS (pickD v ds ds.length) (pickL v ds.length ls) K
def sideF (ds : List Dev) (ls : List LinkV) (nm : ByteArray) (v : Nat → Bool) (K : Nat) : Nat → Bool := inS (pickD v ds ds.length) (pickL v ds.length ls) K (hostI nm (pickD v ds ds.length), 0)
theorem SideIs.unique {ds : List Dev} {ls : List LinkV} {nm : ByteArray} {v v' : Nat → Bool} {K K' : Nat} (h : SideIs ds ls nm v K) (h' : SideIs ds ls nm v' K') : sideF ds ls nm v K = sideF ds ls nm v' K' := by
  obtain rfl := h.near.unique h'.near
  unfold sideF inS
  rcases Nat.le_total K K' with hk | hk
  · rw [round_stays _ _ h.fix K' hk]
  · rw [round_stays _ _ h'.fix K hk]
def SidesP (a b : NetV) (nm : ByteArray) (W : World) (e : Ending) (W' : World) : Prop := Below W.heap.size W W' ∧
  ((∃ E : Int, E ≠ 0 ∧ e = .returned (.tuple #[.slice none 0 0, .int .i64 E])) ∨
   ∃ (s c Na Nb Ka Kb : Nat) (va vb : Nat → Bool), e = .returned (.tuple #[.slice (some ⟨s, 0, none⟩) 2 c, .int .i64 0]) ∧ SideIs a.devs a.ls nm va Ka ∧ SideIs b.devs b.ls nm vb Kb ∧
     ReachAt W' Na (pickD va a.devs a.devs.length) (pickL va a.devs.length a.ls) Ka ∧ ReachAt W' Nb (pickD vb b.devs b.devs.length) (pickL vb b.devs.length b.ls) Kb ∧
     (∀ (j : Nat) u, [Value.pointer (some ⟨Na, 0, none⟩), .int .i64 (hostI nm (pickD va a.devs a.devs.length)), .int .i64 0, .pointer (some ⟨Nb, 0, none⟩), .int .i64 (hostI nm (pickD vb b.devs b.devs.length)), .int .i64 0][j]? = some u → W'.cell? ⟨s, j, none⟩ = some u))
theorem Try.infoNet : (Try.prog.info? 25).map (fun i => (i.zero, i.size, i.bytes)) = some (some (.agg #[.slice none 0 0, .slice none 0 0]), 2, 48) := by kernel_rfl
theorem Try.infoSide : (Try.prog.info? 98).map (fun i => (i.zero, i.size, i.bytes)) = some (some (.agg #[.pointer none, .int .i64 0, .int .i64 0]), 3, 24) := by kernel_rfl
theorem below_alloc3 (w : World) (o o' : Obj) : Below w.heap.size w ((w.alloc o).alloc o') := (below_alloc2 w o).trans ((below_alloc2 (w.alloc o) o').mono (below_alloc2 w o).size)
theorem part_reads (w : World) (A A' : Option Addr) (n c n' c' : Nat) : Reads ((w.alloc (.cells #[.slice A n c, .slice A' n' c'] 25)).alloc (.cells #[.slice A n c, .slice A' n' c'] 25)) (w.heap.size + 2) 2 (some ⟨w.heap.size + 1, 0, none⟩) 1 [.slice A n c, .slice A' n' c'] :=
  ⟨rfl, fun _ => ⟨_, rfl, by show w.heap.size + 1 < w.heap.size + 2; omega, fun j u hu => by
      have hx := heap_alloc_new (w.alloc (.cells #[.slice A n c, .slice A' n' c'] 25)) (.cells #[.slice A n c, .slice A' n' c'] 25)
      rw [World.size_alloc] at hx
      rw [addr_add, Nat.zero_add, cell_of_row _ _ _ _ _ _ hx]
      simpa using hu⟩⟩
theorem side_reads (w : World) (N : Nat) (I : Int) : Reads (w.alloc (.cells #[.pointer (some ⟨N, 0, none⟩), .int .i64 I, .int .i64 0] 98)) (w.heap.size + 1) 3 (some ⟨w.heap.size, 0, none⟩) 1 [.pointer (some ⟨N, 0, none⟩), .int .i64 I, .int .i64 0] :=
  ⟨rfl, fun _ => ⟨_, rfl, by show w.heap.size < w.heap.size + 1; omega, fun j u hu => by
      have hx := heap_alloc_new w (.cells #[.pointer (some ⟨N, 0, none⟩), .int .i64 I, .int .i64 0] 98)
      rw [addr_add, Nat.zero_add, cell_of_row _ _ _ _ _ _ hx]
      simpa using hu⟩⟩
def netC (n : NetV) : List Value := [.slice n.dA n.dn n.dc, .slice n.lA n.ln n.lc]

set_option maxRecDepth 100000 in
set_option maxHeartbeats 8000000 in
theorem sides_walk (a b : NetV) (nm : ByteArray) (Nn cn : Nat) (W : World) (ha : NetAt W W.heap.size a) (hb : NetAt W W.heap.size b) (hN : Nn < W.heap.size) (hc : ∀ (j : Nat) u, (netC a ++ netC b)[j]? = some u → W.cell? ⟨Nn, j, none⟩ = some u) :
    Calls Try.prog 33 #[.slice (some ⟨Nn, 0, none⟩) 2 cn, .string nm, .int .i64 40000] W (SidesP a b nm W) := by
  have HSA := hide (fun (w' : World) (hb' : Below W.heap.size W w') => slice_walk a nm w' (ha.below hb' hb'.size))
  have HSB := hide (fun (w' : World) (hb' : Below W.heap.size W w') => slice_walk b nm w' (hb.below hb' hb'.size))
  have HCC := hide (fun (w' : World) (hb' : Below W.heap.size W w') => show w'.cell? ⟨Nn, 0, none⟩ = some (.slice a.dA a.dn a.dc) ∧ w'.cell? ⟨Nn, 1, none⟩ = some (.slice a.lA a.ln a.lc) ∧ w'.cell? ⟨Nn, 2, none⟩ = some (.slice b.dA b.dn b.dc) ∧ w'.cell? ⟨Nn, 3, none⟩ = some (.slice b.lA b.ln b.lc) from
    ⟨(hb'.cell (p := ⟨Nn, 0, none⟩) hN).trans (hc 0 _ rfl), (hb'.cell (p := ⟨Nn, 1, none⟩) hN).trans (hc 1 _ rfl), (hb'.cell (p := ⟨Nn, 2, none⟩) hN).trans (hc 2 _ rfl), (hb'.cell (p := ⟨Nn, 3, none⟩) hN).trans (hc 3 _ rfl)⟩)
  have HBAD := hide (fun (E : Int) (h0 : E ≠ 0) (w' : World) (hb' : Below W.heap.size W w') => show SidesP a b nm W (.returned (.tuple #[.slice none 0 0, .int .i64 E])) w' from ⟨hb', .inl ⟨E, h0, rfl⟩⟩)
  have HGOOD := hide (fun (s c Na Nb Ka Kb : Nat) (va vb : Nat → Bool) (w' : World) (hb' : Below W.heap.size W w') (h1 : SideIs a.devs a.ls nm va Ka) (h2 : SideIs b.devs b.ls nm vb Kb) (h3 : ReachAt w' Na (pickD va a.devs a.devs.length) (pickL va a.devs.length a.ls) Ka) (h4 : ReachAt w' Nb (pickD vb b.devs b.devs.length) (pickL vb b.devs.length b.ls) Kb)
    (h5 : ∀ (j : Nat) u, [Value.pointer (some ⟨Na, 0, none⟩), .int .i64 (hostI nm (pickD va a.devs a.devs.length)), .int .i64 0, .pointer (some ⟨Nb, 0, none⟩), .int .i64 (hostI nm (pickD vb b.devs b.devs.length)), .int .i64 0][j]? = some u → w'.cell? ⟨s, j, none⟩ = some u) => show SidesP a b nm W (.returned (.tuple #[.slice (some ⟨s, 0, none⟩) 2 c, .int .i64 0])) w' from
    ⟨hb', .inr ⟨s, c, Na, Nb, Ka, Kb, va, vb, rfl, h1, h2, h3, h4, h5⟩⟩)
  clear ha hb hc
  generalize SidesP a b nm W = Q at *
  obtain ⟨dA, dn, dc, ds, lA, ln, lc, ls⟩ := a
  obtain ⟨eA, en, ec, es, fA, fn, fc, fs⟩ := b
  simp only [NetV.val, NetV.devs] at *
  obtain ⟨i0, hi0, hy0, hy1, hy2⟩ := info_parts Try.infoNet
  obtain ⟨i1, hi1, hz0, hz1, hz2⟩ := info_parts Try.infoSide
  go_enter Try.func33, Try.ntmps33
  go_wp2_with fail
  have HB0 := hide (below_alloc2 W (.cells #[.string nm] 9))
  have HX0 := hide (Bx.new W #[.string nm] 9)
  have hs0 : (W.alloc (.cells #[.string nm] 9)).heap.size = W.heap.size + 1 := by simp
  generalize World.alloc W _ = w0 at *
  refine wp_loop_rounds 3 ?_
  rw [rounds_succ]
  obtain ⟨x0, x1, _, _⟩ := HCC.out w0 HB0.out
  have xs : ∀ o, (w0.alloc o).cell? ⟨W.heap.size, 0, none⟩ = some (.string nm) := fun o => (HX0.out.below (below_alloc2 w0 o)).get 0 _ rfl
  go_wp2_with fail
  have hbx := below_alloc2 w0 (.cells #[.slice dA dn dc, .slice lA ln lc] 25)
  refine (HSA.out _ (HB0.out.trans (hbx.mono HB0.out.size))).mono ?_
  clear HSA x0 x1 xs
  rintro e w1 ⟨hb1, hra⟩
  have HB1 := hide (HB0.out.trans ((hbx.trans (hb1.mono hbx.size)).mono HB0.out.size))
  have HX1 := hide (HX0.out.below (hbx.trans (hb1.mono hbx.size)))
  clear hbx hb1 HB0 HX0
  simp only [NetV.devs] at hra
  rcases hra with ⟨hE, rfl⟩ | ⟨hEa, m1, v1, rfl, hm1, hlo1, hnear1, hd1, hl1⟩
  · have HF := hide (fun o => HBAD.out _ hE (w1.alloc o) (HB1.out.alloc HB1.out.size o))
    generalize chkE nm (ds.map DevV.dev) ls = C at *
    have hC2 : (C != 0) = true := by simpa using hE
    clear hE
    go_wp2
    exact HF.out _
  have HS1 := hide (And.intro hEa (And.intro hnear1 (And.intro hd1 hl1)))
  have hw1 : W.heap.size + 1 ≤ w1.heap.size := by have := HX1.out.lt; omega
  have HM1 := hide (show NetAt w1 w1.heap.size m1 from hm1)
  clear hm1 hlo1 hnear1 hd1 hl1 hEa
  obtain ⟨mA, mn, mc, ms, kA, kn, kc, ks⟩ := m1
  simp only [NetV.val, NetV.devs] at *
  have HL3 := hide (part_reads w1 mA kA mn mc kn kc)
  have hs3 : ((w1.alloc (.cells #[.slice mA mn mc, .slice kA kn kc] 25)).alloc (.cells #[.slice mA mn mc, .slice kA kn kc] 25)).heap.size = w1.heap.size + 2 := by simp
  have HA3 := hide (below_alloc3 w1 (.cells #[.slice mA mn mc, .slice kA kn kc] 25) (.cells #[.slice mA mn mc, .slice kA kn kc] 25))
  go_wp2_with (at_builtin; refine wpList_append_any _ rfl (.tmp 34) (.tmp 36) 93 rfl w1.heap.size 25 i0 _ 2 48 Try.underlying93 hi0 hy0 hy1 hy2 rfl (by omega) (.slice none 0 0) 0 [] rfl (World.ownsRow_nil _ _ _ _) (w1.heap.size + 2) (some ⟨w1.heap.size + 1, 0, none⟩) 1 1 [.slice mA mn mc, .slice kA kn kc] rfl HL3.out (by intro u hu; simp at hu; rcases hu with rfl | rfl <;> rfl) (by simp only [maxLen]; omega) (by omega) (by rw [hs3]; omega) ?_; intro V1 w2 hown1 hg1 hat1; obtain ⟨s1, c1, rfl, _⟩ := hown1.form (by omega); have HT1 := hide (And.intro hown1 (And.intro hg1 hat1)); clear hown1 hg1 hat1)
  have hs1 : s1 = w1.heap.size + 2 := by
    rcases HT1.out.2.2 with h | h
    · cases h
    · rw [hs3] at h; exact Option.some.inj h
  subst hs1
  have HB2 := hide (grow_new HA3.out (Nat.le_refl _) HT1.out.2.1 (fun k hk => by cases hk))
  have hlt2 : w1.heap.size + 2 < w2.heap.size := (HT1.out.1.lt _ rfl).2
  have HO2 := hide HT1.out.1
  have HBW2 := hide (HB1.out.trans (HB2.out.mono HB1.out.size))
  have HX2 := hide (HX1.out.below HB2.out)
  have HN1 := hide (show NetAt w2 w1.heap.size ⟨mA, mn, mc, ms, kA, kn, kc, ks⟩ from HM1.out.below HB2.out (Nat.le_refl _))
  clear HT1 HA3 HL3 hs3 HB2 HM1 HB1 HX1
  rw [rounds_succ]
  obtain ⟨_, _, x2, x3⟩ := HCC.out w2 HBW2.out
  have xs : ∀ o, (w2.alloc o).cell? ⟨W.heap.size, 0, none⟩ = some (.string nm) := fun o => (HX2.out.below (below_alloc2 w2 o)).get 0 _ rfl
  go_wp2_with fail
  have hbx := below_alloc2 w2 (.cells #[.slice eA en ec, .slice fA fn fc] 25)
  refine (HSB.out _ (HBW2.out.trans (hbx.mono HBW2.out.size))).mono ?_
  clear HSB x2 x3 xs HCC
  rintro e w3 ⟨hb3, hra⟩
  have hb23 := hbx.trans (hb3.mono hbx.size)
  have HB3 := hide (HBW2.out.trans (hb23.mono HBW2.out.size))
  have HX3 := hide (HX2.out.below hb23)
  have hlt3 : w2.heap.size < w3.heap.size := by have := hb3.size; rw [World.size_alloc] at this; omega
  have HN13 := hide (HN1.out.below (hb23.mono (by omega)) (Nat.le_refl _))
  have HO3 := hide (own_below HO2.out hb23)
  clear hbx hb3 hb23 HBW2 HX2 HN1 HO2
  simp only [NetV.devs] at hra
  rcases hra with ⟨hE, rfl⟩ | ⟨hEa, m2, v2, rfl, hm2, hlo2, hnear2, hd2, hl2⟩
  · have HF := hide (fun o => HBAD.out _ hE (w3.alloc o) (HB3.out.alloc HB3.out.size o))
    generalize chkE nm (es.map DevV.dev) fs = C at *
    have hC2 : (C != 0) = true := by simpa using hE
    clear hE
    go_wp2
    exact HF.out _
  have HS2 := hide (And.intro hEa (And.intro hnear2 (And.intro hd2 hl2)))
  have HLO2 := hide hlo2
  have HM2 := hide (show NetAt w3 w3.heap.size m2 from hm2)
  clear hm2 hlo2 hnear2 hd2 hl2 hEa
  obtain ⟨nA, nn, nc, ns, pA, pn, pc, ps⟩ := m2
  simp only [NetV.val, NetV.devs] at *
  have HL5 := hide (part_reads w3 nA pA nn nc pn pc)
  have hs5 : ((w3.alloc (.cells #[.slice nA nn nc, .slice pA pn pc] 25)).alloc (.cells #[.slice nA nn nc, .slice pA pn pc] 25)).heap.size = w3.heap.size + 2 := by simp
  have HA5 := hide (below_alloc3 w3 (.cells #[.slice nA nn nc, .slice pA pn pc] 25) (.cells #[.slice nA nn nc, .slice pA pn pc] 25))
  have HO5 := hide (own_below HO3.out HA5.out)
  go_wp2_with (at_builtin; refine wpList_append_any _ rfl (.tmp 34) (.tmp 36) 93 rfl w1.heap.size 25 i0 _ 2 48 Try.underlying93 hi0 hy0 hy1 hy2 rfl (by omega) (.slice (some ⟨w1.heap.size + 2, 0, none⟩) 1 c1) 1 ([] ++ [.slice mA mn mc, .slice kA kn kc]) rfl HO5.out (w3.heap.size + 2) (some ⟨w3.heap.size + 1, 0, none⟩) 1 1 [.slice nA nn nc, .slice pA pn pc] rfl HL5.out (by intro u hu; simp at hu; rcases hu with rfl | rfl <;> rfl) (by simp only [maxLen]; omega) (by omega) (by rw [hs5]; omega) ?_; intro V2 w4 hown2 hg2 hat2; obtain ⟨s2, c2, rfl, _⟩ := hown2.form (by omega); have HT2 := hide (And.intro hown2 (And.intro hg2 hat2)); clear hown2 hg2 hat2)
  have HBL := hide (grow_new (HA5.out.mono (show w1.heap.size ≤ w3.heap.size by omega)) (show w1.heap.size ≤ w3.heap.size by omega) HT2.out.2.1 (fun k hk => by have e : w1.heap.size + 2 = k := Option.some.inj hk; omega))
  have HB4 := hide (HB3.out.trans (HBL.out.mono (by omega)))
  have HX4 := hide (HX3.out.same (HBL.out.block _ (by omega)))
  have HN14 := hide (show NetAt w4 w4.heap.size ⟨mA, mn, mc, ms, kA, kn, kc, ks⟩ from HN13.out.below HBL.out (by have := HBL.out.size; omega))
  have HN24 := hide (show NetAt w4 w4.heap.size ⟨nA, nn, nc, ns, pA, pn, pc, ps⟩ from by
    have h5 := HM2.out.below HA5.out (Nat.le_refl _)
    refine h5.stay (StayOn.of_grown HT2.out.2.1) (fun a ha => ?_) (fun a ha => ?_) (fun d hd => ?_) HBL.out.size
    · have := HLO2.out.d a ha
      intro e; have e2 : a.block = w1.heap.size + 2 := Option.some.inj e; simp only [World.size_alloc] at this; omega
    · have := HLO2.out.l a ha
      intro e; have e2 : a.block = w1.heap.size + 2 := Option.some.inj e; simp only [World.size_alloc] at this; omega
    · refine (HLO2.out.o d hd).weak fun q hq e => ?_
      have e2 : _ = w1.heap.size + 2 := Option.some.inj e; simp only [World.size_alloc] at hq; omega)
  have q0 := HT2.out.1.cellAt 0 (by omega)
  have q1 := HT2.out.1.cellAt 1 (by omega)
  have q2 := HT2.out.1.cellAt 2 (by omega)
  have q3 := HT2.out.1.cellAt 3 (by omega)
  have hs2 := (HT2.out.1.lt _ rfl).2
  have HQ := hide (fun (w' : World) (hb : Below w4.heap.size w4 w') => show (w'.cell? ⟨s2, 0, none⟩ = some (.slice mA mn mc) ∧ w'.cell? ⟨s2, 1, none⟩ = some (.slice kA kn kc)) ∧ (w'.cell? ⟨s2, 2, none⟩ = some (.slice nA nn nc) ∧ w'.cell? ⟨s2, 3, none⟩ = some (.slice pA pn pc)) from
    ⟨⟨(hb.cell (p := ⟨s2, 0, none⟩) hs2).trans q0, (hb.cell (p := ⟨s2, 1, none⟩) hs2).trans q1⟩, (hb.cell (p := ⟨s2, 2, none⟩) hs2).trans q2, (hb.cell (p := ⟨s2, 3, none⟩) hs2).trans q3⟩)
  clear q0 q1 q2 q3 HT2 HBL HO5 HL5 hs5 HA5 HM2 HLO2 HO3 HN13 HX3 HB3
  rw [rounds_succ]
  go_wp2_with fail
  refine wp_loop_rounds 3 ?_
  rw [rounds_succ]
  obtain ⟨⟨x0, x1⟩, _⟩ := HQ.out w4 (Below.refl _ _)
  have xb : ∀ o, (w4.alloc o).cell? ⟨s2, 0, none⟩ = some (.slice mA mn mc) ∧ (w4.alloc o).cell? ⟨s2, 1, none⟩ = some (.slice kA kn kc) := fun o => (HQ.out _ (below_alloc2 w4 o)).1
  go_wp2_with fail
  have hbx := below_alloc2 w4 (.cells #[.slice mA mn mc, .slice kA kn kc] 25)
  refine (reachNew_any ⟨mA, mn, mc, ms, kA, kn, kc, ks⟩ _ (HN14.out.below hbx hbx.size)).mono ?_
  clear x0 x1 xb
  rintro e w5 ⟨hb5, hra⟩
  have hb45 := hbx.trans (hb5.mono hbx.size)
  have HB5 := hide (HB4.out.trans (hb45.mono HB4.out.size))
  have HX5 := hide (HX4.out.below hb45)
  have HP5 := hide ((Bx.new w4 #[.slice mA mn mc, .slice kA kn kc] 25).below hb5)
  have HQ5 := hide (fun (w' : World) (hb : Below w5.heap.size w5 w') => (HQ.out w' (hb45.trans (hb.mono hb45.size))).2)
  have HN5 := hide (show NetAt w5 w5.heap.size ⟨mA, mn, mc, ms, kA, kn, kc, ks⟩ from HN14.out.below hb45 hb45.size)
  have HN25 := hide (show NetAt w5 w5.heap.size ⟨nA, nn, nc, ns, pA, pn, pc, ps⟩ from HN24.out.below hb45 hb45.size)
  clear hbx hb5 hb45 HB4 HX4 HQ HN14 HN24
  simp only [NetV.devs] at hra
  rcases hra with ⟨N1, K1, rfl, hne1, hlo1⟩ | ⟨E, hE, rfl⟩
  case inr =>
    have HF := hide (HBAD.out _ hE w5 HB5.out)
    have hC2 : (E != 0) = true := by simpa using hE
    clear hE
    go_wp2
    exact HF.out
  have HR1 := hide hlo1
  have HNE1 := hide hne1
  clear hlo1 hne1
  have p0 := HP5.out.get 0 _ rfl
  have HID1 := hide (show idxF (fun d : DevV => decide (d.kind = 1) && nameEq d.name nm) ms = hostI nm (ms.map DevV.dev) from idxF_map DevV.dev (hostD nm) ms)
  go_wp2_with fail
  have hmn : mn ≤ 10 := net_dn HN5.out HNE1.out
  refine (indexFuncDev_any ms mA mn mc 59 #[.pointer (some ⟨W.heap.size, 0, none⟩)] (fun d => decide (d.kind = 1) && nameEq d.name nm) w5 (by omega) HN5.out.ds (fun args w => by go_simp) (hide (fun r w' hr hw' => sideClos_walk r nm W.heap.size w' (Nat.lt_of_lt_of_le HX5.out.lt hw'.size) ((HX5.out.below hw').get 0 _ rfl)))).mono ?_
  rintro e w6 ⟨rfl, hb6⟩
  rw [HID1.out]
  have HB6 := hide (HB5.out.trans (hb6.mono HB5.out.size))
  have hWw6 : W.heap.size ≤ w6.heap.size := HB6.out.size
  have HX6 := hide (HX5.out.below hb6)
  have HQ6 := hide (fun (w' : World) (hb : Below w6.heap.size w6 w') => HQ5.out w' (hb6.trans (hb.mono hb6.size)))
  have HN26 := hide (show NetAt w6 w6.heap.size ⟨nA, nn, nc, ns, pA, pn, pc, ps⟩ from HN25.out.below hb6 hb6.size)
  have HR16 := hide (HR1.out.below hb6)
  clear hb6 HB5 HX5 HQ5 HN25 HR1 p0 HP5 HN5 HID1 HNE1
  generalize hI1 : hostI nm (ms.map DevV.dev) = I1 at *
  have HI1 := hide hI1
  clear hI1
  have HL7 := hide (side_reads w6 N1 I1)
  have hs7 : (w6.alloc (.cells #[.pointer (some ⟨N1, 0, none⟩), .int .i64 I1, .int .i64 0] 98)).heap.size = w6.heap.size + 1 := by simp
  go_wp2_with (at_builtin; refine wpList_append_any _ rfl (.tmp 58) (.tmp 63) 90 rfl w6.heap.size 98 i1 _ 3 24 Try.underlying90 hi1 hz0 hz1 hz2 rfl (by omega) (.slice none 0 0) 0 [] rfl (World.ownsRow_nil _ _ _ _) (w6.heap.size + 1) (some ⟨w6.heap.size, 0, none⟩) 1 1 [.pointer (some ⟨N1, 0, none⟩), .int .i64 I1, .int .i64 0] rfl HL7.out (by intro u hu; simp at hu; rcases hu with rfl | rfl | rfl <;> rfl) (by simp only [maxLen]; omega) (by omega) (by rw [hs7]; omega) ?_; intro V3 w7 hown3 hg3 hat3; obtain ⟨s3, c3, rfl, _⟩ := hown3.form (by omega); have HT3 := hide (And.intro hown3 (And.intro hg3 hat3)); clear hown3 hg3 hat3)
  have hs3 : s3 = w6.heap.size + 1 := by
    rcases HT3.out.2.2 with h | h
    · cases h
    · rw [hs7] at h; exact Option.some.inj h
  subst hs3
  have hb67 := grow_new (below_alloc2 w6 (.cells #[.pointer (some ⟨N1, 0, none⟩), .int .i64 I1, .int .i64 0] 98)) (Nat.le_refl _) HT3.out.2.1 (fun k hk => by cases hk)
  have hlt7 : w6.heap.size + 1 < w7.heap.size := (HT3.out.1.lt _ rfl).2
  have HO7 := hide HT3.out.1
  have HB7 := hide (HB6.out.trans (hb67.mono HB6.out.size))
  have HX7 := hide (HX6.out.below hb67)
  have HQ7 := hide (fun (w' : World) (hb : Below w7.heap.size w7 w') => HQ6.out w' (hb67.trans (hb.mono hb67.size)))
  have HN27 := hide (show NetAt w7 w7.heap.size ⟨nA, nn, nc, ns, pA, pn, pc, ps⟩ from HN26.out.below hb67 hb67.size)
  have HC7 := hide hb67
  clear hb67 HT3 hs7 HL7 HB6 HX6 HQ6 HN26
  rw [rounds_succ]
  obtain ⟨x0, x1⟩ := HQ7.out w7 (Below.refl _ _)
  have xb : ∀ o, (w7.alloc o).cell? ⟨s2, 2, none⟩ = some (.slice nA nn nc) ∧ (w7.alloc o).cell? ⟨s2, 3, none⟩ = some (.slice pA pn pc) := fun o => HQ7.out _ (below_alloc2 w7 o)
  go_wp2_with fail
  have hbx := below_alloc2 w7 (.cells #[.slice nA nn nc, .slice pA pn pc] 25)
  refine (reachNew_any ⟨nA, nn, nc, ns, pA, pn, pc, ps⟩ _ (HN27.out.below hbx hbx.size)).mono ?_
  clear x0 x1 xb HQ7
  rintro e w8 ⟨hb8, hra⟩
  have hb78 := hbx.trans (hb8.mono hbx.size)
  have HB8 := hide (HB7.out.trans (hb78.mono HB7.out.size))
  have HX8 := hide (HX7.out.below hb78)
  have HP8 := hide ((Bx.new w7 #[.slice nA nn nc, .slice pA pn pc] 25).below hb8)
  have HN8 := hide (show NetAt w8 w8.heap.size ⟨nA, nn, nc, ns, pA, pn, pc, ps⟩ from HN27.out.below hb78 hb78.size)
  have HO8 := hide (own_below HO7.out hb78)
  have hlt8 : w7.heap.size ≤ w8.heap.size := hb78.size
  have HC8 := hide (HC7.out.trans (hb78.mono (by omega)))
  clear hbx hb8 hb78 HB7 HX7 HN27 HO7 HC7
  simp only [NetV.devs] at hra
  rcases hra with ⟨N2, K2, rfl, hne2, hlo2⟩ | ⟨E, hE, rfl⟩
  case inr =>
    have HF := hide (HBAD.out _ hE w8 HB8.out)
    have hC2 : (E != 0) = true := by simpa using hE
    clear hE
    go_wp2
    exact HF.out
  have HR2 := hide hlo2
  have HNE2 := hide hne2
  clear hlo2 hne2
  have p0 := HP8.out.get 0 _ rfl
  have HID2 := hide (show idxF (fun d : DevV => decide (d.kind = 1) && nameEq d.name nm) ns = hostI nm (ns.map DevV.dev) from idxF_map DevV.dev (hostD nm) ns)
  go_wp2_with fail
  have hmn : nn ≤ 10 := net_dn HN8.out HNE2.out
  refine (indexFuncDev_any ns nA nn nc 59 #[.pointer (some ⟨W.heap.size, 0, none⟩)] (fun d => decide (d.kind = 1) && nameEq d.name nm) w8 (by omega) HN8.out.ds (fun args w => by go_simp) (hide (fun r w' hr hw' => sideClos_walk r nm W.heap.size w' (Nat.lt_of_lt_of_le HX8.out.lt hw'.size) ((HX8.out.below hw').get 0 _ rfl)))).mono ?_
  rintro e w9 ⟨rfl, hb9⟩
  rw [HID2.out]
  have HB9 := hide (HB8.out.trans (hb9.mono HB8.out.size))
  have HO9 := hide (own_below HO8.out hb9)
  have HC9 := hide (HC8.out.trans (hb9.mono (by omega)))
  have HR29 := hide (HR2.out.below hb9)
  have hlt9 : w8.heap.size ≤ w9.heap.size := hb9.size
  clear hb9 HB8 HX8 HO8 HC8 HR2 p0 HP8 HN8 HID2 HNE2
  generalize hI2 : hostI nm (ns.map DevV.dev) = I2 at *
  have HI2 := hide hI2
  clear hI2
  have HL10 := hide (side_reads w9 N2 I2)
  have hs10 : (w9.alloc (.cells #[.pointer (some ⟨N2, 0, none⟩), .int .i64 I2, .int .i64 0] 98)).heap.size = w9.heap.size + 1 := by simp
  have HBA := hide (below_alloc2 w9 (.cells #[.pointer (some ⟨N2, 0, none⟩), .int .i64 I2, .int .i64 0] 98))
  have HOA := hide (own_below HO9.out HBA.out)
  go_wp2_with (at_builtin; refine wpList_append_any _ rfl (.tmp 58) (.tmp 63) 90 rfl w6.heap.size 98 i1 _ 3 24 Try.underlying90 hi1 hz0 hz1 hz2 rfl (by omega) (.slice (some ⟨w6.heap.size + 1, 0, none⟩) 1 c3) 1 ([] ++ [.pointer (some ⟨N1, 0, none⟩), .int .i64 I1, .int .i64 0]) rfl HOA.out (w9.heap.size + 1) (some ⟨w9.heap.size, 0, none⟩) 1 1 [.pointer (some ⟨N2, 0, none⟩), .int .i64 I2, .int .i64 0] rfl HL10.out (by intro u hu; simp at hu; rcases hu with rfl | rfl | rfl <;> rfl) (by simp only [maxLen]; omega) (by omega) (by rw [hs10]; omega) ?_; intro V4 w10 hown4 hg4 hat4; obtain ⟨s4, c4, rfl, _⟩ := hown4.form (by omega); have HT4 := hide (And.intro hown4 (And.intro hg4 hat4)); clear hown4 hg4 hat4)
  have HCA := hide (grow_new (HC9.out.trans (HBA.out.mono (by omega))) (Nat.le_refl _) HT4.out.2.1 (fun k hk => by have e : w6.heap.size + 1 = k := Option.some.inj hk; omega))
  have HB10 := hide (grow_new (HB9.out.trans (HBA.out.mono HB9.out.size)) (Nat.le_refl _) HT4.out.2.1 (fun k hk => by have e : w6.heap.size + 1 = k := Option.some.inj hk; omega))
  have HR110 := hide (HR16.out.below HCA.out)
  have HR210 := hide ((HR29.out.below HBA.out).keep HT4.out.2.1.size (fun i hi hl => HT4.out.2.1.block i hl (fun e => by
    have e2 : i = w6.heap.size + 1 := Option.some.inj e
    simp only [World.size_alloc] at hi
    omega)))
  have hcell := hide (fun (j : Nat) u (hu : [Value.pointer (some ⟨N1, 0, none⟩), .int .i64 I1, .int .i64 0, .pointer (some ⟨N2, 0, none⟩), .int .i64 I2, .int .i64 0][j]? = some u) => show w10.cell? ⟨s4, j, none⟩ = some u from by
    have h := HT4.out.1.cells rfl j u hu
    simpa [addr_add] using h)
  clear HCA HC9 HR16 HR29 HT4 HBA HOA HL10 hs10 HO9 HB9
  rw [rounds_succ]
  go_wp2
  obtain ⟨a1, a2, a3, a4⟩ := HS1.out
  obtain ⟨b1, b2, b3, b4⟩ := HS2.out
  have r1 := HR110.out.at_
  have r2 := HR210.out.at_
  have hc := hcell.out
  rw [← HI1.out, ← HI2.out, a3, b3] at hc
  rw [a3, a4] at r1
  rw [b3, b4] at r2
  exact HGOOD.out s4 c4 N1 N2 K1 K2 v1 v2 w10 HB10.out ⟨a1, a2, r1.fix⟩ ⟨b1, b2, r2.fix⟩ r1 r2 hc
end Go.Proofs.Ytklbdfgblebniaa
