/- A part of the proof: Rd14, RdR, RdF. -/
import Derived.Test.YtifkacnoiocebaaGreatRs25
set_option linter.unusedVariables false
set_option linter.unusedSimpArgs false
set_option maxRecDepth 100000
set_option maxHeartbeats 8000000
namespace Go.Proofs.YtifkacnoiocebaaGreat
open Bdd Go.Maps Go.RowKit
theorem MapOk.below {A : St} {M : PoK → Option Value} {S : Pl → Bdd.Fn} {ks : List Pl} (h : MapOk A M S ks) (hv : A.vars = 14) (i : Inv A) (x : Pl) : Bdd.Below 14 (S x) := by
  rw [← (h.isF x).2, ← hv]
  exact den_below i.ok _ (h.isF x).1
theorem round_next {ds : List Dev} {ls : List LinkV} {k d : Nat} (h : ds.length = d) : nextTo ds ls (roundS ds ls k) (roundS ds ls k) d = roundS ds ls (k + 1) := by subst h; rfl
theorem Sums.add {wr : World} {B g rb base : Nat} {A : St} {v : Value} {L : List Ent} {ks : List Pl} {er : Nat} (more : List Nat) (h : Sums wr B g A rb base v L ks er []) (hsa : AS wr B g A (v.ownBlock.toList ++ (more ++ rb :: L.map Ent.blk))) (hap : ∀ q, v.ownBlock = some q → q ∉ more) (hrb : rb ∉ more) : Sums wr B g A rb base v L ks er more :=
  ⟨hsa, h.own, fun q hq hm => by
    rcases List.mem_append.1 hm with a | a
    · exact hap q hq a
    · exact h.ap q hq (by simpa using a), h.bx, h.ents, fun hm => by
    rcases List.mem_append.1 hm with a | a
    · exact hrb a
    · exact h.ne (by simpa using a)⟩
theorem same_det (W : World) (a b : Nat) (Ma Mb : PoK → Option Value) (ha : MapIs Tryz.prog 27 poVal poDom W a Ma) (hb : MapIs Tryz.prog 27 poVal poDom W b Mb) (iA : Ints Ma) (iB : Ints Mb) (r : Bool) (hr : r = true ↔ ∀ x, (Mb x).isSome = true → numAt Ma x = numAt Mb x) :
    Calls Tryz.prog 27 #[.map (some a), .map (some b)] W fun e W' => e = .returned (.bool r) ∧ RowKit.Below W.heap.size W W' :=
  (same_round W a b Ma Mb ha hb iA iB).mono fun e w' ⟨h1, h2⟩ => by
    rcases h2 with ⟨rfl, h⟩ | ⟨rfl, x, hx, hne⟩
    · exact ⟨by rw [hr.2 h], h1⟩
    · exact ⟨by rw [Bool.eq_false_iff.2 (fun hh => hne (hr.1 hh x hx))], h1⟩
theorem reachNew_good (n : NetV) (most : Nat) (W : World) (hn : NetAt W W.heap.size n) (hE : netE n.devs n.ls = 0) (hm1 : 2 ≤ most) (hm2 : most ≤ 40000) :
    (P : Bdd.Fn → Prop) → (FirstPC P n.devs n.ls (fun _ _ => false)) → (∀ k, NextPC P n.devs n.ls (roundS n.devs n.ls k) (roundS n.devs n.ls k)) →
    Calls Tryz.prog 5 #[n.val, .int .i64 (most : Int)] W (ReachNewP n most P W) := by
  intro P hP1 hP2
  have HP := hide (And.intro hP1 hP2)
  have HD := hide (And.intro (net_devs_ok hE) (And.intro (netLinks_ok hE) (show n.dn ≤ 10 from by have := (netE_ok hE).dl; have := hn.dlen; simp only [NetV.devs, List.length_map] at *; omega)))
  have HDL := hide hn.dlen
  clear hP1 hP2
  have HNW := hide (fun (w' : World) (hb : RowKit.Below W.heap.size W w') (B' : Nat) (hB : W.heap.size ≤ B') => show NetAt w' B' n from hn.below hb hB)
  have HC := hide (fun (w' : World) (hb : RowKit.Below W.heap.size W w') => netCheck_walk n w' (hn.below hb hb.size))
  have HE := hide hE
  simp only [hE] at HC
  clear hn hE
  have hmm := @run_makeMap Tryz.prog
  obtain ⟨dA, dn, dc, ds, lA, ln, lc, ls⟩ := n
  simp only [NetV.val, NetV.devs] at *
  go_enter Tryz.func5, Tryz.ntmps5
  go_wp2_with fail
  have hb0 := below_alloc2 W (.cells #[.slice dA dn dc, .slice lA ln lc] 25)
  have HB0 := hide hb0
  have HX0 := hide (Bx.new W #[.slice dA dn dc, .slice lA ln lc] 25)
  refine (HC.out _ hb0).mono ?_
  clear HC
  rintro e w1 ⟨rfl, hb⟩
  have HB1 := hide (HB0.out.trans (hb.mono HB0.out.size))
  have HX1 := hide (HX0.out.below hb)
  clear hb hb0 HB0 HX0
  go_wp2_with fail
  refine (as_new w1 14 most (by omega) (by omega) hm1 hm2).mono ?_
  rintro e w2 ⟨g, rfl, has, hb⟩
  have HA2 := hide has
  have HB2 := hide (HB1.out.trans (hb.mono HB1.out.size))
  have HX2 := hide (HX1.out.below hb)
  clear has hb
  have x0 : ∀ o1 o2, ((w2.alloc o1).alloc o2).cell? ⟨W.heap.size, 0, none⟩ = some (.slice dA dn dc) := fun o1 o2 => ((HX2.out.below (below_alloc2 w2 o1)).below (below_alloc2 _ o2)).get 0 _ rfl
  have x1 : ∀ o1 o2, ((w2.alloc o1).alloc o2).cell? ⟨W.heap.size, 1, none⟩ = some (.slice lA ln lc) := fun o1 o2 => ((HX2.out.below (below_alloc2 w2 o1)).below (below_alloc2 _ o2)).get 1 _ rfl
  have HNB := hide (new_boxes HA2.out ⟨dA, dn, dc, ds, lA, ln, lc, ls⟩)
  go_wp2_with fail
  clear x0 x1 hmm
  generalize World.alloc (World.alloc (World.alloc (World.alloc w2 _) _) _) _ = w6 at *
  have HB6 := hide (HB2.out.trans (HNB.out.2.2.mono HB2.out.size))
  have HX6 := hide (HX2.out.below HNB.out.2.2)
  generalize w2.heap.size = N at *
  generalize N + 1 + 1 + 1 = rd at *
  generalize N + 1 + 1 = nm at *
  generalize N + 1 = mk at *
  refine (first_round w6 w1.heap.size g (newSt 14 most) [N] mk 0 rd ⟨dA, dn, dc, ds, lA, ln, lc, ls⟩ (.map none) nm _ _ HNB.out.1 rfl (HNW.out w6 HB6.out _ HB1.out.size) HD.out.1 HD.out.2.2 HD.out.2.1 P HP.out.1).mono ?_
  rintro e w7 ⟨rfl, A7, e7, Mn7, hrd, hx7, hnw7, hkp7, he7⟩
  have HN0 := hide (NS.start (base := W.heap.size) (n := ⟨dA, dn, dc, ds, lA, ln, lc, ls⟩) (by
    have h0 := hrd
    rw [show firstTo (NetV.devs ⟨dA, dn, dc, ds, lA, ln, lc, ls⟩) (NetV.ls ⟨dA, dn, dc, ds, lA, ln, lc, ls⟩) (fun _ _ => false) (NetV.dn ⟨dA, dn, dc, ds, lA, ln, lc, ls⟩) = roundS (NetV.devs ⟨dA, dn, dc, ds, lA, ln, lc, ls⟩) ls 0 from by
      unfold roundS firstS; rw [show (NetV.devs ⟨dA, dn, dc, ds, lA, ln, lc, ls⟩).length = dn from by simp only [NetV.devs, List.length_map]; exact HDL.out]] at h0
    exact h0) (HNB.out.2.1.kp hkp7 (by simp)))
  have HB7 := hide (HB6.out.trans (hkp7.low.mono HB1.out.size))
  have HX7 := hide (HX6.out.same (hkp7.low.block _ (Nat.lt_of_lt_of_le HX1.out.lt (Nat.le_refl _))))
  have HV7 := hide (show A7.vars = 14 from hx7.vars)
  have HE7 := hide (And.intro hx7 hnw7)
  clear hrd hx7 hnw7 hkp7 he7 HNB HB6 HX6 HX2 HA2
  go_wp2_with fail
  clear HB2
  generalize e7 = er at *
  go_loopg [10] ((endsOf ls).length * 16384 - cntS (roundS (ds.map DevV.dev) ls 0) (endsOf ls)) (fun m u wr => ∃ (k rd : Nat) (wmV : Value) (nm : Nat) (A : St) (er : Nat) (v : Value) (L : List Ent) (Mn : PoK → Option Value), u = .pointer (some ⟨rd, 0, none⟩) ∧ Hid (NS wr w1.heap.size g A N W.heap.size v L k mk er rd ⟨dA, dn, dc, ds, lA, ln, lc, ls⟩ wmV nm Mn) ∧ Hid (m = (endsOf ls).length * 16384 - cntS (roundS (ds.map DevV.dev) ls k) (endsOf ls)) ∧ Hid (k + m ≤ 491520) ∧ Hid (RowKit.Below W.heap.size W wr) ∧ Hid (Bx wr W.heap.size #[.slice dA dn dc, .slice lA ln lc] 25) ∧ Hid (A.vars = 14) ∧ Hid (Ext (newSt 14 most) A ∧ NwP P (newSt 14 most) A) ∧ Hid (∀ j, j < k → roundS (ds.map DevV.dev) ls (j + 1) ≠ roundS (ds.map DevV.dev) ls j))
  case atStart => exact ⟨0, rd, .map none, nm, A7, er, .slice none 0 0, [], Mn7, rfl, HN0, hide rfl, hide (by have h1 := HD.out.2.1.len; have h2 := ends_len ls; omega), HB7, HX7, HV7, HE7, hide (fun j hj => absurd hj (Nat.not_lt_zero _))⟩
  case round =>
    clear HN0 HB7 HX7 HV7 HE7
    obtain ⟨k, rd', wmV, nm', A, er', v, L, Mn, rfl, HN, HMU, HKM, HB, HX, HV, HE, HUP⟩ := hrel
    have HER := hide HN.out.rnd.m.er
    have HLS := hide HN.out.ls
    obtain ⟨i0, hi0, hz0, hz1, hz2⟩ := info_parts Tryz.infoSum
    have HQ := hide (fun (w' : World) (h1 : Bx w' N #[v, .pointer (some ⟨g, 0, none⟩)] 68) (h2 : Bx w' rd' #[.pointer (some ⟨mk, 0, none⟩), .slice dA dn dc, .slice lA ln lc, wmV, .map (some nm')] 75) =>
      show w'.cell? ⟨N, 0, none⟩ = some v ∧ w'.cell? ⟨rd', 4, none⟩ = some (.map (some nm')) from ⟨h1.get 0 _ rfl, h2.get 4 _ rfl⟩)
    go_wp2_with fail
    have HS1 := hide (HN.out.su.below (RowKit.Below.refl _ _).drew)
    have HR1 := hide (HN.out.rnd.below (RowKit.Below.refl _ _).drew)
    refine wp_region_E (fun w' => w'.cell? ⟨N, 0, none⟩ = some v ∧ w'.cell? ⟨rd', 4, none⟩ = some (.map (some nm'))) 13 (by kernel_rfl) (HQ.out _ HS1.out.bx HR1.out.bx) (fun hS => ?_)
    refine rP 0 hS ?_
    refine rP 1 hS ?_
    refine rP 2 hS ?_
    refine rP 3 hS ?_
    refine rL 4 [10, 13] rfl hS (by intro w hSw; obtain ⟨s0, s1⟩ := hSw; go_simp; try with_reducible rfl) ?_
    refine rP 5 hS ?_
    refine rP 6 hS ?_
    refine rP 7 hS ?_
    refine rL 8 [9, 10, 13] rfl hS (by intro w hSw; obtain ⟨s0, s1⟩ := hSw; go_simp; try with_reducible rfl) ?_
    intro inv
    refine rO 9 inv fun K hK => ?_
    go_simp
    have hb4 : RowKit.Below wr.heap.size wr (wr.alloc (.cells #[.map (some nm')] 73)).drew := ((RowKit.Below.refl _ _).alloc (Nat.le_refl _) _).drew
    have HX4 := hide (show Bx (wr.alloc (.cells #[.map (some nm')] 73)).drew wr.heap.size #[.map (some nm')] 73 from Bx.new wr #[.map (some nm')] 73)
    have HS4 := hide (HN.out.su.below hb4)
    have HR4 := hide (HN.out.rnd.below hb4)
    have hs4 : (wr.alloc (.cells #[.map (some nm')] 73)).drew.heap.size = wr.heap.size + 1 := by simp
    have hBs := HB.out.size
    have HXN4 := hide (HX.out.below hb4)
    have HBN4 := hide (HB.out.trans (hb4.mono hBs))
    clear hb4 HS1 HR1
    refine hK.out _ _ (fun _ => HQ.out _ HS4.out.bx HR4.out.bx) ?_
    clear hK K hS inv
    intro inv
    try simp only [Act.put, nrmA, nrmB, nrmC]
    generalize World.drew _ = w4 at *
    have hS := HQ.out _ HS4.out.bx HR4.out.bx
    have hnr := HN.out.rnd.ne
    have hma := HN.out.rnd.m.ap
    simp only [List.mem_append, List.mem_cons, List.not_mem_nil, or_false, not_or] at hnr hma
    have HNE := hide (And.intro hnr hma)
    clear hnr hma
    have hLk : L.length = k := by have := congrArg List.length HN.out.ls; simpa using this
    have hk9 : L.length ≤ 491520 := by have := HKM.out; omega
    have HLK := hide hLk
    clear hLk
    refine rO 10 inv fun K hK => ?_
    rw [if_pos (by rfl)]
    refine wp_append_any _ (.tmp 41) (.tmp 46) 66 rfl W.heap.size 73 i0 _ 1 8 Tryz.underlying66 hi0 hz0 hz1 hz2 rfl (by omega) v L.length (L.map fun e => .map (some e.blk)) rfl HS4.out.own (wr.heap.size + 1) (some ⟨wr.heap.size, 0, none⟩) 1 1 [.map (some nm')] rfl (reads_one HX4.out) (fun u hu => by simp at hu; subst hu; rfl) (by unfold maxLen; omega) (by omega) (by omega) ?_
    intro v5 w5 hown5 hg5 hat5
    obtain ⟨g5, c5, rfl, _⟩ := hown5.form (by omega)
    have hkp5 := HS4.out.grow hown5 hg5 hat5
    have hps := HS4.out.push (e := ⟨nm', Mn, roundS (ds.map DevV.dev) ls k⟩) hown5 hg5 hat5 (by simp) HR4.out.mn ⟨HR4.out.ints, HR4.out.keys, HR4.out.sn⟩
    have HPS := hide hps
    have HN5 := hide (HS4.out.bx.kp hkp5 (by simp))
    have HR5 := hide (HR4.out.bx.kp hkp5 (by simp))
    have HM5 := hide (HR4.out.m.bx.kp hkp5 (by simp))
    have fz5 : w5.frozen? ⟨N, 0, none⟩ = false := HN5.out.frozen 0
    have s0 : w5.cell? ⟨N, 0, none⟩ = some v := HN5.out.get 0 _ rfl
    clear hown5 hg5 hat5 hkp5 hps hS
    refine hK.out _ _ (fun _ => HQ.out _ HN5.out HR5.out) ?_
    clear hK K inv
    intro inv
    try simp only [Act.put, nrmA, nrmB, nrmC]
    have hS := HQ.out _ HN5.out HR5.out
    revert inv
    refine rP 11 hS ?_
    refine rP 12 hS ?_
    intro inv
    refine rT 13 inv fun K hK => ?_
    go_simp
    refine hK.out _ _ ?_
    clear hK K inv
    intro inv
    try simp only [Act.put, nrmA, nrmB, nrmC]
    refine rD ?_
    clear inv
    clear s0 fz5 hS
    have hKP := HPS.out.2
    have HR6 := hide (HR5.out.far ⟨N, 0, none⟩ (.slice (some ⟨g5, 0, none⟩) (L.length + 1) c5) (by have := HN.out.su.ne; simp only [List.mem_append, List.mem_cons, not_or] at this; exact fun e => this.1.1 e.symm))
    have HM6 := hide (HM5.out.far ⟨N, 0, none⟩ (.slice (some ⟨g5, 0, none⟩) (L.length + 1) c5) (by have := HN.out.su.ne; simp only [List.mem_append, List.mem_cons, not_or] at this; exact fun e => this.1.2.2.1 e.symm))
    clear hKP HN5 HR5 HM5 hs4
    generalize World.setCell w5 _ _ = w6' at *
    have HX6 := hide (HXN4.out.same (HPS.out.2.low.block _ HX1.out.lt))
    have HB6 := hide (HBN4.out.trans (HPS.out.2.low.mono HB1.out.size))
    have HSU6 := hide HPS.out.1
    clear HPS HXN4 HBN4 HS4 HR4 HX4 HN HB HX hBs
    generalize Value.slice (some ⟨g5, 0, none⟩) (L.length + 1) c5 = v6 at *
    go_wp2_with fail
    have HQ2 := hide (fun (w' : World) (h1 : Bx w' rd' #[.pointer (some ⟨mk, 0, none⟩), .slice dA dn dc, .slice lA ln lc, wmV, .map (some nm')] 75) (h2 : Bx w' W.heap.size #[.slice dA dn dc, .slice lA ln lc] 25) =>
      show w'.cell? ⟨rd', 0, none⟩ = some (.pointer (some ⟨mk, 0, none⟩)) ∧ w'.cell? ⟨rd', 4, none⟩ = some (.map (some nm')) ∧ w'.cell? ⟨W.heap.size, 0, none⟩ = some (.slice dA dn dc) ∧ w'.cell? ⟨W.heap.size, 1, none⟩ = some (.slice lA ln lc) from ⟨h1.get 0 _ rfl, h1.get 4 _ rfl, h2.get 0 _ rfl, h2.get 1 _ rfl⟩)
    have HR7 := hide (HR6.out.below (RowKit.Below.refl _ _).drew)
    have HM7 := hide (HM6.out.below (RowKit.Below.refl _ _).drew)
    have HX7 := hide (HX6.out.below (RowKit.Below.refl _ _).drew)
    have HS7 := hide (HSU6.out.below (RowKit.Below.refl _ _).drew)
    have HB7 := hide (HB6.out.trans ((RowKit.Below.refl _ _).drew.mono HB6.out.size))
    clear HR6 HM6 HX6 HSU6 HB6
    refine wp_region_E (fun w' => w'.cell? ⟨rd', 0, none⟩ = some (.pointer (some ⟨mk, 0, none⟩)) ∧ w'.cell? ⟨rd', 4, none⟩ = some (.map (some nm')) ∧ w'.cell? ⟨W.heap.size, 0, none⟩ = some (.slice dA dn dc) ∧ w'.cell? ⟨W.heap.size, 1, none⟩ = some (.slice lA ln lc)) 16 (by kernel_rfl) (HQ2.out _ HR7.out HX7.out) (fun hS => ?_)
    refine rP 0 hS ?_
    refine rP 1 hS ?_
    refine rP 2 hS ?_
    refine rL 3 [14, 15, 16] rfl hS (by intro w hSw; obtain ⟨s0, s1, s2, s3⟩ := hSw; go_simp; try with_reducible rfl) ?_
    refine rL 4 [14, 15, 16] rfl hS (by intro w hSw; obtain ⟨s0, s1, s2, s3⟩ := hSw; go_simp; try with_reducible rfl) ?_
    refine rP 5 hS ?_
    refine rP 6 hS ?_
    refine rP 7 hS ?_
    refine rL 8 [14, 15, 16] rfl hS (by intro w hSw; obtain ⟨s0, s1, s2, s3⟩ := hSw; go_simp; try with_reducible rfl) ?_
    refine rP 9 hS ?_
    refine rP 10 hS ?_
    refine rP 11 hS ?_
    refine rL 12 [13, 14, 15, 16] rfl hS (by intro w hSw; obtain ⟨s0, s1, s2, s3⟩ := hSw; go_simp; try with_reducible rfl) ?_
    intro inv
    refine rO 13 inv fun K hK => ?_
    go_simp
    have hent := HS7.out.ents ⟨nm', Mn, roundS (ds.map DevV.dev) ls k⟩ (by simp)
    refine (copied_walk _ nm' Mn hent.1 hent.2.ints (endsOf ls) (by have h1 := HD.out.2.1.len; have h2 := ends_len ls; unfold maxLen; omega) hent.2.keys).mono ?_
    clear hent
    rintro en w8 ⟨hb8, nb, hnb, rfl, hm8⟩
    have HR8 := hide (HR7.out.below hb8)
    have HM8 := hide (HM7.out.below hb8)
    have HX8 := hide (HX7.out.below hb8)
    have HS8 := hide (HS7.out.below hb8)
    have HB8 := hide (HB7.out.trans (hb8.mono HB7.out.size))
    have HC8 := hide (And.intro hm8 hnb)
    have HA8 := hide (HS7.out.sa.add hb8.size (fun i hi _ => hb8.block i hi) hnb hm8.lt)
    have HNB8 := hide (fun hj => (Nat.not_lt.2 hnb (HS7.out.sa.lt nb hj).2 : False))
    clear hb8 hm8 hS hnb
    go_simp
    refine hK.out _ _ (fun _ => HQ2.out _ HR8.out HX8.out) ?_
    clear hK K inv
    intro inv
    try simp only [Act.put, nrmA, nrmB, nrmC]
    have hS := HQ2.out _ HR8.out HX8.out
    revert inv
    refine rP 14 hS ?_
    intro inv
    refine rO 15 inv fun K hK => ?_
    go_simp
    have hnb9 := next_box (n := ⟨dA, dn, dc, ds, lA, ln, lc, ls⟩) (Mn := Mn) (S := roundS (ds.map DevV.dev) ls k) HS8.out HA8.out HM8.out HER.out (by simp) HC8.out.1 (fun hj => HNB8.out hj) HNE.out.2.1 (by
      have h1 := HNE.out.2.2.2.2.2
      have h2 := HNE.out.2.2.1
      simp only [List.map_append, List.map_cons, List.map_nil, List.mem_append, List.mem_singleton, not_or]
      exact ⟨h1, h2⟩)
    have HRN := hide hnb9.1
    have HWN := hide hnb9.2
    have hb9 := below_alloc2 w8 (.cells #[.pointer (some ⟨mk, 0, none⟩), .slice dA dn dc, .slice lA ln lc, .map (some nm'), .map (some nb)] 75)
    have HR9 := hide (HR8.out.below hb9)
    have HX9 := hide (HX8.out.below hb9)
    have HS9 := hide ((HS8.out.less (more' := []) (by simp)).below hb9)
    have HB9 := hide (HB8.out.trans (hb9.mono HB8.out.size))
    clear hb9 hnb9 HR8 HX8 HS8 HB8 HA8 HNB8 HM8 HC8 HR7 HM7 HX7 HS7 HB7 hS
    simp only [NetV.devs, NetV.ls] at HRN HWN
    generalize World.alloc w8 _ = w9 at *
    generalize w8.heap.size = rn at *
    have hS := HQ2.out _ HR9.out HX9.out
    refine hK.out _ _ (fun _ => hS) ?_
    clear hK K hS inv
    intro inv
    try simp only [Act.put, nrmA, nrmB, nrmC]
    refine rT 16 inv fun K hK => ?_
    go_simp
    refine hK.out _ _ ?_
    clear hK K inv
    intro inv
    try simp only [Act.put, nrmA, nrmB, nrmC]
    refine rD ?_
    clear inv
    clear HQ HQ2
    go_wp2_with fail
    have hinv := HRN.out.inv
    have HIV := hide hinv
    clear hinv
    refine (next_round w9 w1.heap.size g A _ mk er' rn ⟨dA, dn, dc, ds, lA, ln, lc, ls⟩ nm' nb Mn Mn _ _ HRN.out HWN.out HV.out (HNW.out w9 HB9.out _ HB1.out.size) HD.out.1 HD.out.2.2 HD.out.2.1 P (HP.out.2 k)).mono ?_
    rintro en w10 ⟨rfl, A10, e10, Mn10, hrd, hx10, hnw10, hkp10, he10⟩
    have HRD := hide (show RD w10 w1.heap.size g A10 (rd' :: (v6.ownBlock.toList ++ N :: (L ++ [(⟨nm', Mn, roundS (ds.map DevV.dev) ls k⟩ : Ent)]).map Ent.blk)) mk e10 rn ⟨dA, dn, dc, ds, lA, ln, lc, ls⟩ (.map (some nm')) nb Mn10 (roundS (ds.map DevV.dev) ls (k + 1)) from by
      have h0 := hrd
      have e1 : nextTo (ds.map DevV.dev) ls (roundS (ds.map DevV.dev) ls k) (roundS (ds.map DevV.dev) ls k) dn = roundS (ds.map DevV.dev) ls (k + 1) := round_next (by simp only [List.length_map]; exact HDL.out)
      rw [← e1]
      exact h0)
    have HS10 := hide (HS9.out.kept (er' := e10) (HRD.out.m.sa.mono (fun j hj => by
      simp only [List.nil_append] at hj
      simp only [List.mem_cons]
      exact .inr (.inr (.inr (.inr hj))))) hx10 (hkp10.mono (fun j hj => by
      simp only [List.nil_append] at hj
      exact List.mem_cons_of_mem _ hj)) he10)
    have HR10 := hide (HR9.out.kp hkp10 (by simp))
    have HB10 := hide (HB9.out.trans (hkp10.low.mono HB1.out.size))
    have HX10 := hide (HX9.out.same (hkp10.low.block _ HX1.out.lt))
    have HE10 := hide (And.intro (HE.out.1.trans hx10) (HE.out.2.trans hnw10 HIV.out hx10))
    have HV10 := hide (show A10.vars = 14 from hx10.vars.trans HV.out)
    have HZ10 := hide he10
    clear hrd hx10 hnw10 hkp10 he10 HS9 HR9 HB9 HX9 HE HV HRN HWN HIV
    have her := HRD.out.m.er
    have c0 : w10.cell? ⟨rn, 0, none⟩ = some (.pointer (some ⟨mk, 0, none⟩)) := HRD.out.bx.get 0 _ rfl
    rcases her with rfl | ⟨rfl, hfull⟩
    case inr =>
      have c1 : w10.cell? ⟨mk, 1, none⟩ = some (.int .i64 6) := HRD.out.m.bx.get 1 _ rfl
      have HF := hide (fun (w' : World) (hb : RowKit.Below w10.heap.size w10 w') => show ReachNewP ⟨dA, dn, dc, ds, lA, ln, lc, ls⟩ most P W (.returned (.tuple #[.pointer none, .int .i64 6])) w' from ⟨HB10.out.trans (hb.mono HB10.out.size), .inr ⟨A10, rfl, HE10.out.1, HE10.out.2, hfull⟩⟩)
      clear hfull
      have HK0 := hide c0
      have HK1 := hide c1
      go_wp2_with fail
      clear c0 c1
      refine wp_region_abs (by kernel_rfl) (by kernel_rfl) ?_
      intro T hT gt hg1 hgi
      have HGT := hide hg1
      clear hg1 hgi
      have k0 : ∀ t, (gt t).cell? ⟨rn, 0, none⟩ = some (.pointer (some ⟨mk, 0, none⟩)) := fun t => (HRD.out.bx.below (HGT.out t)).get 0 _ rfl
      have k1 : ∀ t, (gt t).cell? ⟨mk, 1, none⟩ = some (.int .i64 6) := fun t => (HRD.out.m.bx.below (HGT.out t)).get 1 _ rfl
      repeat (go_big_quiet_step (fail))
      refine wpQuiet_nil ?_
      intro _ hw'
      obtain ⟨t, rfl⟩ := hw'
      have HFF := hide (HF.out _ (HGT.out t))
      clear HF k0 k1
      generalize gt t = w11 at *
      go_wp2
      go_ret2
      exact HFF.out
    case inl =>
      have c1 : w10.cell? ⟨mk, 1, none⟩ = some (.int .i64 0) := HRD.out.m.bx.get 1 _ rfl
      obtain rfl : er' = 0 := HZ10.out rfl
      have hent := HS10.out.ents (⟨nm', Mn, roundS (ds.map DevV.dev) ls k⟩ : Ent) (by simp)
      have HENT := hide hent
      have HMS := hide hent.2.ok
      have HMT := hide (show MapOk A10 Mn10 (roundS (ds.map DevV.dev) ls (k + 1)) (endsOf ls) from ⟨HRD.out.ints, HRD.out.keys, fun x => HRD.out.sn rfl x⟩)
      clear hent
      obtain ⟨r, hr⟩ : ∃ r : Bool, r = true ↔ ∀ x, (Mn10 x).isSome = true → numAt Mn x = numAt Mn10 x := by
        rcases Classical.em (∀ x, (Mn10 x).isSome = true → numAt Mn x = numAt Mn10 x) with h | h
        · exact ⟨true, ⟨fun _ => h, fun _ => rfl⟩⟩
        · exact ⟨false, ⟨fun hh => Bool.noConfusion hh, fun hh => absurd hh h⟩⟩
      have HRB := hide hr
      clear hr
      go_wp2_with fail
      clear c0 c1
      refine wp_region_abs (by kernel_rfl) (by kernel_rfl) ?_
      intro T hT gt hg1 hgi
      have HGT := hide hg1
      have HGI := hide hgi
      clear hg1 hgi
      have k0 : ∀ t, (gt t).cell? ⟨rd', 4, none⟩ = some (.map (some nm')) := fun t => (HR10.out.below (HGT.out t)).get 4 _ rfl
      have k1 : ∀ t, (gt t).cell? ⟨rn, 4, none⟩ = some (.map (some nb)) := fun t => (HRD.out.bx.below (HGT.out t)).get 4 _ rfl
      repeat (go_big_quiet_step ((go_at_call 27; exact inAbs HGT.out HGI.out (same_det _ nm' nb Mn Mn10 (HENT.out.1.same ((HGT.out _).block _ HENT.out.1.lt)) (HRD.out.mn.same ((HGT.out _).block _ HRD.out.mn.lt)) HMS.out.ints HMT.out.ints r HRB.out))))
      refine wpQuiet_nil ?_
      intro _ hw'
      obtain ⟨t, rfl⟩ := hw'
      have HRD11 := hide (HRD.out.below (HGT.out t))
      have HS11 := hide (HS10.out.below (HGT.out t))
      have HB11 := hide (HB10.out.trans ((HGT.out t).mono HB10.out.size))
      have HX11 := hide (HX10.out.below (HGT.out t))
      generalize gt t = w11 at *
      clear HGT HGI k0 k1 HRD HS10 HB10 HX10 HR10 HENT
      have HLL := hide (show (L ++ [(⟨nm', Mn, roundS (ds.map DevV.dev) ls k⟩ : Ent)]).map Ent.S = (List.range (k + 1)).map (roundS (ds.map DevV.dev) ls) from by
        rw [List.map_append, HLS.out, List.range_succ, List.map_append]
        rfl)
      cases r
      · -- it went on
        have hne : ∃ x, (Mn10 x).isSome = true ∧ numAt Mn x ≠ numAt Mn10 x := by
          have h2 : ¬ _ := fun h => Bool.noConfusion (HRB.out.2 h)
          exact Classical.byContradiction (fun h => h2 (fun x hx => Classical.byContradiction (fun h3 => h ⟨x, hx, h3⟩)))
        obtain ⟨x, hx, hd⟩ := hne
        obtain ⟨hxk, hxd⟩ := HMS.out.diff HRD11.out.inv HMT.out hx hd
        have hlt2 : cntS (roundS (ds.map DevV.dev) ls k) (endsOf ls) < cntS (roundS (ds.map DevV.dev) ls (k + 1)) (endsOf ls) :=
          cntS_lt (fun y => HMT.out.below HV10.out HRD11.out.inv y) (fun y => HMS.out.below HV10.out HRD11.out.inv y) (le_round _ _ _) hxd _ hxk
        have hmx := cntS_max (roundS (ds.map DevV.dev) ls (k + 1)) (endsOf ls)
        have HNX := hide (And.intro hlt2 hmx)
        have HUP2 := hide (show ∀ j, j < k + 1 → roundS (ds.map DevV.dev) ls (j + 1) ≠ roundS (ds.map DevV.dev) ls j from fun j hj => by
          rcases Nat.lt_succ_iff_lt_or_eq.1 hj with a | rfl
          · exact HUP.out j a
          · exact fun e => hxd (by rw [e]))
        have hn1 := HRD11.out.ne
        have hn2 := HRD11.out.m.ap
        simp only [List.mem_cons, List.mem_append, not_or] at hn1 hn2
        have HNS := hide (show NS w11 w1.heap.size g A10 N W.heap.size v6 (L ++ [(⟨nm', Mn, roundS (ds.map DevV.dev) ls k⟩ : Ent)]) (k + 1) mk 0 rn ⟨dA, dn, dc, ds, lA, ln, lc, ls⟩ (.map (some nm')) nb Mn10 from
          ⟨HRD11.out.less (fun j hj => List.mem_cons_of_mem _ hj), HS11.out.add [rn, nb, mk] (HRD11.out.m.sa.mono (fun j hj => by
            simp only [List.mem_append, List.mem_cons, List.not_mem_nil, or_false] at hj ⊢
            rcases hj with a | (a | a | a) | a | a
            · exact .inr (.inr (.inr (.inr (.inl a))))
            · exact .inr (.inl a)
            · exact .inr (.inr (.inl a))
            · exact .inl a
            · exact .inr (.inr (.inr (.inr (.inr (.inl a)))))
            · exact .inr (.inr (.inr (.inr (.inr (.inr a))))))) (fun q hq hm => by
            have hqo : q ∈ v6.ownBlock.toList := by simp [hq]
            simp only [List.mem_cons, List.not_mem_nil, or_false] at hm
            rcases hm with rfl | rfl | rfl
            · exact hn1.2.1.2.1 hqo
            · exact hn1.2.2.2.1 hqo
            · exact hn2.2.2.2.1 hqo) (by
            simp only [List.mem_cons, List.not_mem_nil, or_false, not_or]
            exact ⟨fun e => hn1.2.1.2.2.1 e.symm, fun e => hn1.2.2.2.2.1 e.symm, fun e => hn2.2.2.2.2.1 e.symm⟩), HLL.out⟩)
        have hgk := HMU.out
        have hkm := HKM.out
        have HG2 := hide (show (endsOf ls).length * 16384 - cntS (roundS (ds.map DevV.dev) ls (k + 1)) (endsOf ls) < gk ∧ k + 1 + ((endsOf ls).length * 16384 - cntS (roundS (ds.map DevV.dev) ls (k + 1)) (endsOf ls)) ≤ 491520 from by omega)
        clear hlt2 hmx hx hd hxk hxd hn1 hn2 hgk hkm
        go_wp2_with fail
        go_roundg ((endsOf ls).length * 16384 - cntS (roundS (ds.map DevV.dev) ls (k + 1)) (endsOf ls))
        case measure => exact HG2.out.1
        case rel => exact ⟨k + 1, rn, .map (some nm'), nb, A10, 0, v6, L ++ [(⟨nm', Mn, roundS (ds.map DevV.dev) ls k⟩ : Ent)], Mn10, rfl, HNS, hide rfl, hide HG2.out.2, HB11, HX11, HV10, HE10, HUP2⟩
      · have hall := HRB.out.1 rfl
        have HFX := hide (show roundS (ds.map DevV.dev) ls (k + 1) = roundS (ds.map DevV.dev) ls k from funext fun x => HMS.out.same HMT.out (le_round _ _ _) hall x)
        clear hall
        have hlen : (L ++ [(⟨nm', Mn, roundS (ds.map DevV.dev) ls k⟩ : Ent)]).length = k + 1 := by rw [List.length_append, HLK.out]; rfl
        obtain ⟨sA, sc, hre, hlo1, hlo2, hlo3⟩ := HS11.out.reach HV10.out (by omega) (by have := HKM.out; omega)
        have hlo0 := HB1.out.size
        have HF := hide (show ReachNewP ⟨dA, dn, dc, ds, lA, ln, lc, ls⟩ most P W (.returned (.tuple #[.pointer (some ⟨N, 0, none⟩), .int .i64 0])) w11 from
          ⟨HB11.out, .inl ⟨N, k, rfl, ⟨⟨_, _, _, _, _, _, hre, HLL.out, hlo0, by omega, hlo1, fun e he => by have := hlo3 e he; omega⟩, HFX.out, HUP.out⟩⟩⟩)
        clear hre hlen hlo0 hlo1 hlo2 hlo3
        go_wp2
        go_ret2
        exact HF.out
theorem cnt1 : ∀ n, (List.range n).countP (fun c => decide (c / 1024 = 1)) = min (n - 1024) 1024 := by
  intro n
  induction n with
  | zero => rfl
  | succ n ih =>
    rw [List.range_succ, List.countP_append, ih, List.countP_singleton]
    split <;> rename_i h <;> simp only [decide_eq_true_eq] at h <;> omega
def AllT : Bdd.Fn → Prop := fun _ => True
theorem pcT (F : Bdd.Fn) : PC AllT F := fun _ _ => trivial
theorem sendT (ls : List LinkV) (x : Pl) (F : Bdd.Fn) (S : Pl → Bdd.Fn) : SendPC AllT ls x F S := fun _ _ _ _ => trivial
theorem anyT (F : Bdd.Fn) (a n : Nat) : AnyPC AllT F a n := fun _ _ => ⟨pcT _, pcT _, pcT _⟩
theorem matchT (m : M4) : MatchPC AllT m := fun _ _ => trivial
theorem swapT (F : Bdd.Fn) (i j : Nat) : SwapPC AllT F i j := ⟨pcT _, pcT _, pcT _, pcT _, pcT _, pcT _, pcT _, pcT _, pcT _, pcT _, pcT _⟩
theorem flipT (F : Bdd.Fn) : FlipPC AllT F := ⟨fun _ _ => swapT _ _ _, fun _ _ => swapT _ _ _⟩
theorem aclT (rs : List RuleV) : AclPC AllT rs := ⟨fun _ _ _ _ => trivial, fun _ _ _ => trivial⟩
theorem toT (F : Bdd.Fn) (a : Nat) : ToPC AllT F a := ⟨anyT _ _ _, matchT _, pcT _⟩
theorem fromT (F : Bdd.Fn) (a : Nat) : FromPC AllT F a := ⟨anyT _ _ _, matchT _, pcT _⟩
theorem firstT (ds : List Dev) (ls : List LinkV) (S : Pl → Bdd.Fn) : FirstPC AllT ds ls S := fun _ _ _ _ => ⟨matchT _, sendT _ _ _ _⟩
theorem nextT (ds : List Dev) (ls : List LinkV) (S S' : Pl → Bdd.Fn) : NextPC AllT ds ls S S' := fun _ _ _ =>
  ⟨fun _ => ⟨aclT _, fun _ _ => pcT _, fun _ _ _ _ => trivial, fun _ _ _ _ => pcT _, fun _ _ _ _ => sendT _ _ _ _⟩,
   fun _ => ⟨aclT _, pcT _, sendT _ _ _ _, flipT _, pcT _, sendT _ _ _ _⟩,
   fun _ => ⟨anyT _ _ _, anyT _ _ _, matchT _, pcT _, sendT _ _ _ _, matchT _, pcT _, anyT _ _ _, anyT _ _ _, anyT _ _ _, anyT _ _ _, flipT _, pcT _, sendT _ _ _ _⟩,
   fun _ => ⟨matchT _, pcT _, pcT _, pcT _, sendT _ _ _ _, sendT _ _ _ _, fun _ _ _ => toT _ _, fun _ _ _ => sendT _ _ _ _, fun _ _ _ => flipT _, fun _ _ _ => pcT _, fun _ _ _ => fromT _ _, fun _ _ _ => sendT _ _ _ _⟩⟩
end Go.Proofs.YtifkacnoiocebaaGreat
