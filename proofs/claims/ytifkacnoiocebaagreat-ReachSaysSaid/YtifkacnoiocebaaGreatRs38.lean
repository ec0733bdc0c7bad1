/- wireward/wirelaw.ReachSays: whatever is handed in, it returns true, and leaves the input as it reads. -/
import Derived.Test.YtifkacnoiocebaaGreatRs27
import Derived.Test.YtifkacnoiocebaaGreatRs28
import Derived.Test.YtifkacnoiocebaaGreatRs31
import Derived.Test.YtifkacnoiocebaaGreatRs32
import Derived.Test.YtifkacnoiocebaaGreatRs34
import Derived.Test.YtifkacnoiocebaaGreatRs36
import Derived.Test.YtifkacnoiocebaaGreatRs37
set_option linter.unusedVariables false
set_option linter.unusedSimpArgs false
set_option maxRecDepth 100000
set_option maxHeartbeats 16000000
namespace Go.Proofs.YtifkacnoiocebaaGreat
open Go.Maps Go.RowKit Go.WideElems
theorem dev_all : DevAny := by
  intro E hE w Dn h i d hd hok hPD
  have h1 : 1 ≤ d.kind := hok.k1
  have h5 : d.kind ≤ 5 := hok.k5
  rcases (by omega : d.kind = 1 ∨ d.kind = 2 ∨ d.kind = 3 ∨ d.kind = 4 ∨ d.kind = 5) with e | e | e | e | e
  · exact dev_host E hE w Dn h i d hd hok hPD e
  · exact dev_router E hE w Dn h i d hd hok hPD e
  · exact dev_fire E hE w Dn h i d hd hok hPD e
  · cases ho : (peerF E.n.ls ((i : Int), 1)).isSome with
    | false => exact dev_nat0 E hE w Dn h i d hd hok hPD e ho
    | true => exact dev_nat1 E hE w Dn h i d hd hok hPD e ho
  · exact dev_bal E hE w Dn h i d hd hok hPD e
section
variable {n : NetV} {K : Nat}
theorem fix_one {ds : List Dev} {ls : List LinkV} {K K' : Nat} (f : roundS ds ls (K + 1) = roundS ds ls K) (u : ∀ j, j < K → roundS ds ls (j + 1) ≠ roundS ds ls j) (f' : roundS ds ls (K' + 1) = roundS ds ls K') (u' : ∀ j, j < K' → roundS ds ls (j + 1) ≠ roundS ds ls j) : K = K' := by
  rcases Nat.lt_trichotomy K K' with h | h | h
  · exact absurd f (u' K h)
  · exact h
  · exact absurd f' (u K' h)
structure NetR (n : NetV) : Prop where
  hd : ∀ d ∈ n.devs, DevOk d
  hr : ∀ d ∈ n.devs, ∀ r ∈ d.rules, r.ok
  hk : NetOk n.devs n.ls
theorem NetR.of {W : World} {B : Nat} (hn : NetAt W B n) (hE : netE n.devs n.ls = 0) : NetR n :=
  ⟨net_devs_ok hE, fun d hd => by
    simp only [NetV.devs, List.mem_map] at hd
    obtain ⟨dv, hdv, rfl⟩ := hd
    exact (hn.dok dv hdv).rs.2.1, netE_ok hE⟩
theorem NetR.out (h : NetR n) {x : PoK} (hx : ¬ PD n.devs n.devs.length 0 x) (k c : Nat) (hc : c < 16384) : roundS n.devs n.ls k x (asgOf c) = false := by
  cases e : roundS n.devs n.ls k x (asgOf c) with
  | false => rfl
  | true =>
    obtain ⟨y, hy⟩ := in_peer h.hd h.hr hc k e
    exact absurd (PD.place.2 (h.hk.pl x (peer_mem hy))) hx
theorem NetR.round1 (p : P4) (x : PoK) (hp : rightB p = true) : roundP n.devs n.ls K x p = tabF n.devs n.ls K x (codeP p) := by
  have hr := hp
  simp only [rightB, inR, Bool.and_eq_true, decide_eq_true_eq] at hr
  have hc : codeP p < 16384 := by unfold codeP; omega
  unfold tabF roundP
  rw [hp, pk_right2 _ hc, code_pk _ hc]
theorem NetR.round2 (h : NetR n) (p : P4) (x : PoK) (hx : ¬ PD n.devs n.devs.length 0 x ∨ rightB p = false) : roundP n.devs n.ls K x p = -1 := by
  by_cases hp : rightB p = true
  · have hx := hx.resolve_right (by rw [hp]; decide)
    have hr := hp
    simp only [rightB, inR, Bool.and_eq_true, decide_eq_true_eq] at hr
    have hc : codeP p < 16384 := by unfold codeP; omega
    have h1 := tab_in n.devs n.ls K x (codeP p) hc
    have h2 : ¬ 0 ≤ tabF n.devs n.ls K x (codeP p) := fun q => by
      have := h1.1 q
      unfold inS at this
      rw [h.out hx K _ hc] at this
      cases this
    have h3 : -1 ≤ tabF n.devs n.ls K x (codeP p) := by
      unfold tabF roundP
      split
      · exact (scanI_range _ _ _).1
      · exact Int.le_refl _
    rw [NetR.round1 p x hp]
    omega
  · unfold roundP
    rw [if_neg hp]
theorem NetR.cnt1 (x : PoK) : cntF 14 14 (roundS n.devs n.ls K x) = (List.range 16384).countP (fun c => decide (0 ≤ tabF n.devs n.ls K x c)) := by
  unfold cntF
  refine List.countP_congr fun c hc => ?_
  have hc : c < 16384 := List.mem_range.1 hc
  rw [decide_eq_true_eq, tab_in n.devs n.ls K x c hc]
  exact Iff.rfl
theorem NetR.cnt2 (h : NetR n) (x : PoK) (hx : ¬ PD n.devs n.devs.length 0 x) : cntF 14 14 (roundS n.devs n.ls K x) = 0 := by
  unfold cntF
  rw [List.countP_eq_zero]
  intro c hc
  have hc : c < 16384 := List.mem_range.1 hc
  have := h.out hx K c hc
  intro q
  have q2 : roundS n.devs n.ls K x (asgOf c) = true := q
  rw [this] at q2
  cases q2
theorem NetR.first (h : NetR n) {x : PoK} {m : M4} {o : Option Nat} (h1 : PD n.devs n.devs.length 0 x → BestT (tabF n.devs n.ls K x) m 16384 o) (h2 : ¬ PD n.devs n.devs.length 0 x → o = none) : FirstP n.devs n.ls K x m (o.map pk) := by
  by_cases hx : PD n.devs n.devs.length 0 x
  · exact (h1 hx).first
  · rw [h2 hx]
    intro k _ c hc
    unfold hitB
    rw [h.out hx k c hc]
    rfl
end
theorem bad_i {a : Int} (h : badMostR a) : inR a 2 40000 = false := by
  unfold badMostR at h
  unfold inR
  rw [Bool.and_eq_false_iff, decide_eq_false_iff_not, decide_eq_false_iff_not]
  omega
theorem firstV_form (r : Option P4) : ∃ (q0 q1 q2 q3 : Int) (ok : Bool), firstV r = .tuple #[.agg #[.int .i64 q0, .int .i64 q1, .int .i64 q2, .int .i64 q3], .bool ok] := by
  cases r with
  | none => exact ⟨0, 0, 0, 0, false, rfl⟩
  | some p => exact ⟨p.src, p.dst, p.sport, p.dport, true, rfl⟩
theorem reachSays_bad (n : NetV) (most x y : Int) (p : P4) (m : M4) (W : World) (hn : NetAt W W.heap.size n) (hmo : i64ok most) (hx : i64ok x) (hy : i64ok y) (hp : p.ok) (hm : m.ok) (hbad : netE n.devs n.ls ≠ 0 ∨ badMostR most) :
    Calls Tryz.prog 3 #[n.val, .int .i64 most, .agg #[.int .i64 x, .int .i64 y], .agg #[.int .i64 p.src, .int .i64 p.dst, .int .i64 p.sport, .int .i64 p.dport], .agg #[.int .u16 m.src, .int .u16 m.dst, .int .u8 m.sport, .int .u8 m.dport]] W fun e W' => e = .returned (.bool true) ∧ RowKit.Below W.heap.size W W' := by
  have HBAD := hide hbad
  have HRW := hide (fun (w' : World) (hb : RowKit.Below W.heap.size W w') => reachNew_bad n most w' ((hn.below hb (Nat.le_refl _)).below (RowKit.Below.refl _ _) hb.size) hbad)
  clear hbad
  have HN := hide hn
  have HXY := hide (And.intro hx hy)
  have HPM := hide (And.intro hp hm)
  have HRN := hide (fun (w' : World) (hb : RowKit.Below W.heap.size W w') => (refNet_walk n w' ((hn.below hb (Nat.le_refl _)).below (RowKit.Below.refl _ _) hb.size)))
  have HGX := hide (fun (W' : World) (hb : RowKit.Below (W.heap.size + 4) ((((W.alloc (.cells #[.slice n.dA n.dn n.dc, .slice n.lA n.ln n.lc] 25)).alloc (.cells #[.int .i64 x, .int .i64 y] 27)).alloc (.cells #[.int .i64 p.src, .int .i64 p.dst, .int .i64 p.sport, .int .i64 p.dport] 29)).alloc (.cells #[.int .u16 m.src, .int .u16 m.dst, .int .u8 m.sport, .int .u8 m.dport] 32)) W') => boxesV (B := W.heap.size + 4) [(#[.slice n.dA n.dn n.dc, .slice n.lA n.ln n.lc], 25), (#[.int .i64 x, .int .i64 y], 27), (#[.int .i64 p.src, .int .i64 p.dst, .int .i64 p.sport, .int .i64 p.dport], 29), (#[.int .u16 m.src, .int .u16 m.dst, .int .u8 m.sport, .int .u8 m.dport], 32)] W (W' := W') hb)
  have hz4 : ((((W.alloc (.cells #[.slice n.dA n.dn n.dc, .slice n.lA n.ln n.lc] 25)).alloc (.cells #[.int .i64 x, .int .i64 y] 27)).alloc (.cells #[.int .i64 p.src, .int .i64 p.dst, .int .i64 p.sport, .int .i64 p.dport] 29)).alloc (.cells #[.int .u16 m.src, .int .u16 m.dst, .int .u8 m.sport, .int .u8 m.dport] 32)).heap.size = W.heap.size + 4 := by simp
  have HZ4 := hide hz4
  simp only [NetV.val] at *
  clear hn hx hy hp hm hz4
  go_enter Tryz.func3, Tryz.ntmps3
  go_wp2_with fail
  generalize World.alloc (World.alloc (World.alloc (World.alloc W _) _) _) _ = W4 at *
  have HB4 := hide ((HGX.out W4 (RowKit.Below.refl _ _)).2 (by omega))
  have HNN := hide (fun (w' : World) (hb : RowKit.Below W.heap.size W w') => show NetAt w' w'.heap.size n from (HN.out.below hb (Nat.le_refl _)).below (RowKit.Below.refl _ _) hb.size)
  refine (HRW.out W4 HB4.out).mono ?_
  clear HRW
  rintro e w5 ⟨hb5, rfl⟩
  have h45 := hb5.mono (Nat.le_of_eq HZ4.out.symm)
  have HB5 := hide (HB4.out.trans (hb5.mono HB4.out.size))
  have n0 : w5.cell? ⟨W.heap.size, 0, none⟩ = some (.slice n.dA n.dn n.dc) := ((HGX.out w5 h45).1 0 _ _ rfl (by omega)).1 0 _ rfl
  have n1 : w5.cell? ⟨W.heap.size, 1, none⟩ = some (.slice n.lA n.ln n.lc) := ((HGX.out w5 h45).1 0 _ _ rfl (by omega)).1 1 _ rfl
  clear hb5 h45
  go_wp2_with fail
  clear n0 n1
  refine (HRN.out w5 HB5.out).mono ?_
  clear HRN
  rintro e w6 ⟨rfl, hb6⟩
  have HB6 := hide (HB5.out.trans (hb6.mono HB5.out.size))
  clear hb6
  obtain ⟨E, hE⟩ : ∃ E, netE n.devs n.ls = E := ⟨_, rfl⟩
  rw [hE] at HBAD ⊢
  clear hE
  by_cases hE : E = 0
  case neg =>
    have e1 : (E == 0) = false := by simpa using hE
    have e2 : (E != 0) = true := by simpa using hE
    rw [badE_no hE]
    go_wp2
    go_ret
    exact ⟨ret_bool (by simp), HB6.out⟩
  case pos =>
    subst hE
    rw [badE_zero]
    have hI := bad_i (HBAD.out.resolve_left (fun h => h rfl))
    have HI := hide (inR_is (n := most) (lo := 2) (hi := 40000) w6 hI)
    clear hI
    go_wp2_with fail
    refine HI.out.mono ?_
    rintro e w7 ⟨rfl, rfl⟩
    go_wp2
    go_ret
    exact ⟨ret_bool (by simp), HB6.out⟩
theorem reachSays_good (n : NetV) (most : Nat) (x y : Int) (p : P4) (m : M4) (W : World) (hn : NetAt W W.heap.size n) (hx : i64ok x) (hy : i64ok y) (hp : p.ok) (hm : m.ok) (hE : netE n.devs n.ls = 0) (hm1 : 2 ≤ most) (hm2 : most ≤ 40000) :
    Calls Tryz.prog 3 #[n.val, .int .i64 (most : Int), .agg #[.int .i64 x, .int .i64 y], .agg #[.int .i64 p.src, .int .i64 p.dst, .int .i64 p.sport, .int .i64 p.dport], .agg #[.int .u16 m.src, .int .u16 m.dst, .int .u8 m.sport, .int .u8 m.dport]] W fun e W' => e = .returned (.bool true) ∧ RowKit.Below W.heap.size W W' := by
  have HR := hide (NetR.of hn hE)
  have HEE := hide hE
  have HRW := hide (fun (w' : World) (hb : RowKit.Below W.heap.size W w') => reachNew_good n most w' ((hn.below hb (Nat.le_refl _)).below (RowKit.Below.refl _ _) hb.size) hE hm1 hm2 AllT (firstT _ _ _) (fun _ => nextT _ _ _ _))
  have HMO := hide (And.intro hm1 hm2)
  clear hE hm1 hm2
  have HN := hide hn
  have HXY := hide (And.intro hx hy)
  have HPM := hide (And.intro hp hm)
  have HRN := hide (fun (w' : World) (hb : RowKit.Below W.heap.size W w') => (refNet_walk n w' ((hn.below hb (Nat.le_refl _)).below (RowKit.Below.refl _ _) hb.size)))
  have HGX := hide (fun (W' : World) (hb : RowKit.Below (W.heap.size + 4) ((((W.alloc (.cells #[.slice n.dA n.dn n.dc, .slice n.lA n.ln n.lc] 25)).alloc (.cells #[.int .i64 x, .int .i64 y] 27)).alloc (.cells #[.int .i64 p.src, .int .i64 p.dst, .int .i64 p.sport, .int .i64 p.dport] 29)).alloc (.cells #[.int .u16 m.src, .int .u16 m.dst, .int .u8 m.sport, .int .u8 m.dport] 32)) W') => boxesV (B := W.heap.size + 4) [(#[.slice n.dA n.dn n.dc, .slice n.lA n.ln n.lc], 25), (#[.int .i64 x, .int .i64 y], 27), (#[.int .i64 p.src, .int .i64 p.dst, .int .i64 p.sport, .int .i64 p.dport], 29), (#[.int .u16 m.src, .int .u16 m.dst, .int .u8 m.sport, .int .u8 m.dport], 32)] W (W' := W') hb)
  have hz4 : ((((W.alloc (.cells #[.slice n.dA n.dn n.dc, .slice n.lA n.ln n.lc] 25)).alloc (.cells #[.int .i64 x, .int .i64 y] 27)).alloc (.cells #[.int .i64 p.src, .int .i64 p.dst, .int .i64 p.sport, .int .i64 p.dport] 29)).alloc (.cells #[.int .u16 m.src, .int .u16 m.dst, .int .u8 m.sport, .int .u8 m.dport] 32)).heap.size = W.heap.size + 4 := by simp
  have HZ4 := hide hz4
  simp only [NetV.val] at *
  clear hn hx hy hp hm hz4
  go_enter Tryz.func3, Tryz.ntmps3
  go_wp2_with fail
  generalize World.alloc (World.alloc (World.alloc (World.alloc W _) _) _) _ = W4 at *
  have HB4 := hide ((HGX.out W4 (RowKit.Below.refl _ _)).2 (by omega))
  have HNN := hide (fun (w' : World) (hb : RowKit.Below W.heap.size W w') => show NetAt w' w'.heap.size n from (HN.out.below hb (Nat.le_refl _)).below (RowKit.Below.refl _ _) hb.size)
  have HSW := hide (fun (w' : World) (hb : RowKit.Below W.heap.size W w') => spread_walk dev_all w' n (HNN.out w' hb) HR.out.hd HR.out.hk)
  refine (HRW.out W4 HB4.out).mono ?_
  clear HRW
  rintro e w5 ⟨hb5, h5⟩
  have HC5 := hide (hb5.mono (Nat.le_of_eq HZ4.out.symm))
  have HB5 := hide (HB4.out.trans (hb5.mono HB4.out.size))
  rcases h5 with ⟨N, K, rfl, hre⟩ | ⟨A, rfl, _⟩
  case inr =>
    have n0 : w5.cell? ⟨W.heap.size, 0, none⟩ = some (.slice n.dA n.dn n.dc) := ((HGX.out w5 HC5.out).1 0 _ _ rfl (by omega)).1 0 _ rfl
    have n1 : w5.cell? ⟨W.heap.size, 1, none⟩ = some (.slice n.lA n.ln n.lc) := ((HGX.out w5 HC5.out).1 0 _ _ rfl (by omega)).1 1 _ rfl
    clear hb5
    go_wp2_with fail
    clear n0 n1
    refine (HRN.out w5 HB5.out).mono ?_
    clear HRN
    rintro e w6 ⟨rfl, hb6⟩
    have HB6 := hide (HB5.out.trans (hb6.mono HB5.out.size))
    clear hb6
    rw [HEE.out]
    have hI : inR (most : Int) 2 40000 = true := by have := HMO.out; unfold inR; rw [Bool.and_eq_true, decide_eq_true_eq, decide_eq_true_eq]; omega
    have HI := hide (inR_is (n := (most : Int)) (lo := 2) (hi := 40000) w6 hI)
    clear hI
    go_wp2_with fail
    refine HI.out.mono ?_
    rintro e w7 ⟨rfl, rfl⟩
    go_wp2
    go_ret
    exact ⟨ret_bool (by simp), HB6.out⟩
  case inl =>
    have HRE := hide hre.at_
    have HFU := hide (And.intro hre.fix hre.up)
    clear hre hb5
    have n0 : w5.cell? ⟨W.heap.size, 0, none⟩ = some (.slice n.dA n.dn n.dc) := ((HGX.out w5 HC5.out).1 0 _ _ rfl (by omega)).1 0 _ rfl
    have n1 : w5.cell? ⟨W.heap.size, 1, none⟩ = some (.slice n.lA n.ln n.lc) := ((HGX.out w5 HC5.out).1 0 _ _ rfl (by omega)).1 1 _ rfl
    go_wp2_with fail
    clear n0 n1
    refine (HRN.out w5 HB5.out).mono ?_
    clear HRN
    rintro e w6 ⟨rfl, hb6⟩
    have HB6 := hide (HB5.out.trans (hb6.mono HB5.out.size))
    have HC6 := hide (HC5.out.trans (hb6.mono (by have := HC5.out.size; rw [HZ4.out] at this; exact this)))
    have HRE6 := hide (HRE.out.below hb6)
    clear hb6 HRE HC5 HB5
    rw [HEE.out]
    have hI : inR (most : Int) 2 40000 = true := by have := HMO.out; unfold inR; rw [Bool.and_eq_true, decide_eq_true_eq, decide_eq_true_eq]; omega
    have HI := hide (inR_is (n := (most : Int)) (lo := 2) (hi := 40000) w6 hI)
    clear hI
    go_wp2_with fail
    refine HI.out.mono ?_
    rintro e w7 ⟨rfl, rfl⟩
    clear HI
    have n0 : w6.cell? ⟨W.heap.size, 0, none⟩ = some (.slice n.dA n.dn n.dc) := ((HGX.out w6 HC6.out).1 0 _ _ rfl (by omega)).1 0 _ rfl
    have n1 : w6.cell? ⟨W.heap.size, 1, none⟩ = some (.slice n.lA n.ln n.lc) := ((HGX.out w6 HC6.out).1 0 _ _ rfl (by omega)).1 1 _ rfl
    go_wp2_with fail
    clear n0 n1
    refine (HSW.out w6 HB6.out).mono ?_
    clear HSW
    rintro e w7 hsp
    unfold SpreadP at hsp
    obtain ⟨s, mb, blk, M, K2, rfl, hb7, hst, hfx, hup⟩ := hsp
    obtain rfl : K2 = K := fix_one hfx hup HFU.out.1 HFU.out.2
    have HST := hide hst
    have HB7 := hide (HB6.out.trans (hb7.mono HB6.out.size))
    have HC7 := hide (HC6.out.trans (hb7.mono (by have := HC6.out.size; rw [HZ4.out] at this; exact this)))
    have HRE7 := hide (HRE6.out.below hb7)
    have HZ7 := hide (show W.heap.size + 4 ≤ w7.heap.size from by have := HC7.out.size; rw [HZ4.out] at this; exact this)
    clear hst hb7 hfx hup HB6 HC6 HRE6
    obtain ⟨pa, pb, pc, pd⟩ := p
    have HPL := hide (show ∀ w', RowKit.Below w7.heap.size w7 w' → (w'.cell? ⟨W.heap.size + 1, 0, none⟩ = some (.int .i64 x) ∧ w'.cell? ⟨W.heap.size + 1, 1, none⟩ = some (.int .i64 y)) ∧ (w'.cell? ⟨W.heap.size + 2, 0, none⟩ = some (.int .i64 pa) ∧ w'.cell? ⟨W.heap.size + 2, 1, none⟩ = some (.int .i64 pb) ∧ w'.cell? ⟨W.heap.size + 2, 2, none⟩ = some (.int .i64 pc) ∧ w'.cell? ⟨W.heap.size + 2, 3, none⟩ = some (.int .i64 pd)) ∧ (w'.cell? ⟨W.heap.size + 3, 0, none⟩ = some (.int .u16 m.src) ∧ w'.cell? ⟨W.heap.size + 3, 1, none⟩ = some (.int .u16 m.dst) ∧ w'.cell? ⟨W.heap.size + 3, 2, none⟩ = some (.int .u8 m.sport) ∧ w'.cell? ⟨W.heap.size + 3, 3, none⟩ = some (.int .u8 m.dport)) from fun w' hb => by
      have h1 := (HGX.out w' (HC7.out.trans (hb.mono HZ7.out))).1
      have b1 := h1 1 _ _ rfl (by omega)
      have b2 := h1 2 _ _ rfl (by omega)
      have b3 := h1 3 _ _ rfl (by omega)
      exact ⟨⟨b1.1 0 _ rfl, b1.1 1 _ rfl⟩, ⟨b2.1 0 _ rfl, b2.1 1 _ rfl, b2.1 2 _ rfl, b2.1 3 _ rfl⟩, ⟨b3.1 0 _ rfl, b3.1 1 _ rfl, b3.1 2 _ rfl, b3.1 3 _ rfl⟩⟩)
    go_wp2_with fail
    obtain ⟨RV, hRV⟩ : ∃ RV, roundP n.devs n.ls K2 (x, y) ⟨pa, pb, pc, pd⟩ = RV := ⟨_, rfl⟩
    have HKI := hide (show ∀ w', RowKit.Below w7.heap.size w7 w' → w'.cell? ⟨s, 0, none⟩ = some (.int .i64 (K2 : Int)) from fun w' hb => (HST.out.up hb).c0)
    have HQ1 := hide (fun (w' : World) (hb : RowKit.Below w7.heap.size w7 w') => rounds_walk N n.devs n.ls K2 w' (HRE7.out.below hb))
    have HQ2 := hide (fun (w' : World) (hb : RowKit.Below w7.heap.size w7 w') => show Calls Tryz.prog 10 #[.pointer (some ⟨N, 0, none⟩), .agg #[.int .i64 x, .int .i64 y], .agg #[.int .i64 pa, .int .i64 pb, .int .i64 pc, .int .i64 pd]] w' (fun e W' => e = .returned (.int .i64 RV) ∧ RowKit.Below w'.heap.size w' W') from by
      rw [← hRV]
      exact reachRound_walk N n.devs n.ls K2 (x, y) ⟨HXY.out.1, HXY.out.2⟩ ⟨pa, pb, pc, pd⟩ w' (HRE7.out.below hb))
    have HQ3 := hide (fun (w' : World) (hb : RowKit.Below w7.heap.size w7 w') => show Calls Tryz.prog 11 #[.pointer (some ⟨s, 0, none⟩), .agg #[.int .i64 x, .int .i64 y], .agg #[.int .i64 pa, .int .i64 pb, .int .i64 pc, .int .i64 pd]] w' (fun e W' => e = .returned (.int .i64 RV) ∧ RowKit.Below w'.heap.size w' W') from
      setsRound_walk w' s mb _ _ blk _ M (HST.out.up hb) x y HXY.out.1 HXY.out.2 ⟨pa, pb, pc, pd⟩ RV (fun _ hp => by rw [← hRV]; exact NetR.round1 _ _ hp) (fun h => by rw [← hRV]; exact HR.out.round2 _ _ h))
    clear hRV
    refine wp_region_abs (by kernel_rfl) (by kernel_rfl) ?_
    intro TT hT gt hg1 hgi
    have HGT := hide hg1
    have HGI := hide hgi
    clear hg1 hgi
    have k0 : ∀ t, (gt t).cell? ⟨s, 0, none⟩ = some (.int .i64 (K2 : Int)) := fun t => HKI.out _ (HGT.out t)
    have z0 : ∀ t, (gt t).cell? ⟨W.heap.size + 1, 0, none⟩ = some (.int .i64 x) := fun t => (HPL.out _ (HGT.out t)).1.1
    have z1 : ∀ t, (gt t).cell? ⟨W.heap.size + 1, 1, none⟩ = some (.int .i64 y) := fun t => (HPL.out _ (HGT.out t)).1.2
    have p0 : ∀ t, (gt t).cell? ⟨W.heap.size + 2, 0, none⟩ = some (.int .i64 pa) := fun t => (HPL.out _ (HGT.out t)).2.1.1
    have p1 : ∀ t, (gt t).cell? ⟨W.heap.size + 2, 1, none⟩ = some (.int .i64 pb) := fun t => (HPL.out _ (HGT.out t)).2.1.2.1
    have p2 : ∀ t, (gt t).cell? ⟨W.heap.size + 2, 2, none⟩ = some (.int .i64 pc) := fun t => (HPL.out _ (HGT.out t)).2.1.2.2.1
    have p3 : ∀ t, (gt t).cell? ⟨W.heap.size + 2, 3, none⟩ = some (.int .i64 pd) := fun t => (HPL.out _ (HGT.out t)).2.1.2.2.2
    repeat (go_big_quiet_step ((first | (go_at_call 9; exact inAbsSame (HQ1.out _ (HGT.out _))) | (go_at_call 10; exact inAbs HGT.out HGI.out (HQ2.out _ (HGT.out _))) | (go_at_call 11; exact inAbs HGT.out HGI.out (HQ3.out _ (HGT.out _))))))
    refine wpQuiet_nil ?_
    intro _ hw'
    obtain ⟨t, rfl⟩ := hw'
    have HB8 := hide (HGT.out t)
    generalize gt t = w8 at *
    clear HGT HGI k0 z0 z1 p0 p1 p2 p3 HQ1 HQ2 HQ3 HKI
    have z0 := (HPL.out _ HB8.out).1.1
    have z1 := (HPL.out _ HB8.out).1.2
    obtain ⟨m0, m1, m2, m3⟩ := (HPL.out _ HB8.out).2.2
    go_wp2_with fail
    clear z0 z1 m0 m1 m2 m3
    refine (first_walkR N n.devs n.ls K2 (x, y) ⟨HXY.out.1, HXY.out.2⟩ m HPM.out.2 w8 (HRE7.out.below HB8.out)).mono ?_
    rintro e w9 ⟨r, rfl, hfr, hb9⟩
    have HFR := hide hfr
    obtain ⟨q0, q1, q2, q3, ok, hV⟩ := firstV_form r
    have HV := hide hV
    rw [hV]
    have HB9 := hide (HB8.out.trans (hb9.mono HB8.out.size))
    have HBA := hide (fun o => HB9.out.trans ((below_alloc2 w9 o).mono HB9.out.size))
    have z0 := fun o => (HPL.out _ (HBA.out o)).1.1
    have z1 := fun o => (HPL.out _ (HBA.out o)).1.2
    have m0 := fun o => (HPL.out _ (HBA.out o)).2.2.1
    have m1 := fun o => (HPL.out _ (HBA.out o)).2.2.2.1
    have m2 := fun o => (HPL.out _ (HBA.out o)).2.2.2.2.1
    have m3 := fun o => (HPL.out _ (HBA.out o)).2.2.2.2.2
    clear hfr hV hb9 HB8
    go_wp2_with fail
    clear z0 z1 m0 m1 m2 m3
    have HBB := hide (HBA.out (.cells #[.int .i64 q0, .int .i64 q1, .int .i64 q2, .int .i64 q3] 29))
    have HX9 := hide (And.intro (BoxV.new w9 #[.int .i64 q0, .int .i64 q1, .int .i64 q2, .int .i64 q3] 29) (show w9.heap.size < (w9.alloc (.cells #[.int .i64 q0, .int .i64 q1, .int .i64 q2, .int .i64 q3] 29)).heap.size from by simp))
    clear HBA HB9
    generalize World.alloc w9 _ = w10 at *
    generalize w9.heap.size = F1 at *
    refine (setsFirst_walk w10 s mb _ _ blk _ M (HST.out.up HBB.out) x y HXY.out.1 HXY.out.2 m HPM.out.2).mono ?_
    rintro e w11 hfq
    unfold FirstQ at hfq
    obtain ⟨o, rfl, ho1, ho2, hb11⟩ := hfq
    have hro : r = o.map pk := FirstP.one HFR.out (HR.out.first ho1 ho2)
    rw [← hro, HV.out]
    have HB11 := hide (HBB.out.trans (hb11.mono HBB.out.size))
    have HX11 := hide (And.intro (HX9.out.1.below hb11 HX9.out.2) (Nat.lt_of_lt_of_le HX9.out.2 hb11.size))
    clear hro ho1 ho2 hb11 HBB HX9 HFR HV
    have HBC := hide (fun o => HB11.out.trans ((below_alloc2 w11 o).mono HB11.out.size))
    have f0 := fun o => (HX11.out.1.below (below_alloc2 w11 o) HX11.out.2).1 0 _ rfl
    have f1 := fun o => (HX11.out.1.below (below_alloc2 w11 o) HX11.out.2).1 1 _ rfl
    have f2 := fun o => (HX11.out.1.below (below_alloc2 w11 o) HX11.out.2).1 2 _ rfl
    have f3 := fun o => (HX11.out.1.below (below_alloc2 w11 o) HX11.out.2).1 3 _ rfl
    have HST2 := hide (fun o => HST.out.up (HBC.out o))
    have s1 := fun o => (HST2.out o).c1
    go_wp2_with (first | (at_range; refine wpList_rangeM _ rfl _ 42 rfl 55 placeKeys Tryz.underlying42 rfl (HST2.out _).mp ?_; intro w0 cnt0 hrg0 hg0 hs0) | go_in)
    clear f0 f1 f2 f3 s1
    go_frame
    have HB12 := hide (HBC.out (.cells #[.int .i64 q0, .int .i64 q1, .int .i64 q2, .int .i64 q3] 29))
    have HML := hide (HST2.out (.cells #[.int .i64 q0, .int .i64 q1, .int .i64 q2, .int .i64 q3] 29)).mp
    clear HBC HST2 HX11 hs0 HB11
    generalize World.alloc w11 _ = w12 at *
    have HR0 := hide hrg0
    have HG0 := hide (show RowKit.Below w12.heap.size w12 w0 from ⟨hg0.os, hg0.tape, hg0.output, hg0.size, fun i hi => hg0.block i hi (by simp)⟩)
    clear hrg0 hg0
    have HRCA := hide (fun (w' : World) (hb : RowKit.Below w7.heap.size w7 w') (a b : Int) (ha : i64ok a) (hb2 : i64ok b) => reachCount_walk N n.devs n.ls K2 (a, b) ⟨ha, hb2⟩ w' (HRE7.out.below hb))
    have HRCB := hide (fun (w' : World) (hb : RowKit.Below w7.heap.size w7 w') (a b : Int) (ha : i64ok a) (hb2 : i64ok b) => setsCount_walk w' s mb _ _ blk _ M (HST.out.up hb) a b ha hb2 (cntF 14 14 (roundS n.devs n.ls K2 (a, b))) (fun _ => NetR.cnt1 (a, b)) (fun h => HR.out.cnt2 (a, b) h))
    go_loopw [99] (fun _ wr => ∃ left cnt, Hid (RangeIs Tryz.prog 27 poVal poDom wr mb w12.heap.size M left cnt) ∧ Hid (RowKit.Below w12.heap.size w12 wr)) (fun _ wr => wr.rangeLeft mb w12.heap.size)
    case atStart => exact ⟨_, cnt0, HR0, HG0⟩
    case round =>
      obtain ⟨left, cnt, HRG, HBW⟩ := hrel
      clear HR0 HG0
      have hcnt := HRG.out.left_eq
      have HCN := hide hcnt
      clear hcnt
      go_wp2_with (first | (at_next; refine wpList_nextM _ rfl _ rfl placeKeys rfl HRG.out ?_ ?_) | go_in)
      · intro hc0 hl0
        clear hl0 hc0
        have HBV := hide (HB12.out.trans (HBW.out.mono HB12.out.size))
        obtain ⟨CV, hCV⟩ : ∃ CV : Nat, cntF 14 14 (roundS n.devs n.ls K2 (x, y)) = CV := ⟨_, rfl⟩
        have HQA := hide (fun (w' : World) (hb : RowKit.Below w7.heap.size w7 w') => HRCA.out w' hb x y HXY.out.1 HXY.out.2)
        have HQB := hide (fun (w' : World) (hb : RowKit.Below w7.heap.size w7 w') => HRCB.out w' hb x y HXY.out.1 HXY.out.2)
        simp only [hCV] at HQA HQB
        clear hCV
        go_wp2_with fail
        refine wp_region_abs (by kernel_rfl) (by kernel_rfl) ?_
        intro TT hT gt hg1 hgi
        have HGT := hide hg1
        have HGI := hide hgi
        clear hg1 hgi
        have z0 : ∀ t, (gt t).cell? ⟨W.heap.size + 1, 0, none⟩ = some (.int .i64 x) := fun t => (HPL.out _ (HBV.out.trans ((HGT.out t).mono HBV.out.size))).1.1
        have z1 : ∀ t, (gt t).cell? ⟨W.heap.size + 1, 1, none⟩ = some (.int .i64 y) := fun t => (HPL.out _ (HBV.out.trans ((HGT.out t).mono HBV.out.size))).1.2
        have HQC := hide (fun t => HQA.out (gt t) (HBV.out.trans ((HGT.out t).mono HBV.out.size)))
        have HQD := hide (fun t => HQB.out (gt t) (HBV.out.trans ((HGT.out t).mono HBV.out.size)))
        repeat (go_big_quiet_step ((first | (go_at_call 14; exact inAbs HGT.out HGI.out (HQC.out _)) | (go_at_call 15; exact inAbs HGT.out HGI.out (HQD.out _)))))
        refine wpQuiet_nil ?_
        intro _ hw'
        obtain ⟨t, rfl⟩ := hw'
        have HB8 := hide (HGT.out t)
        have HB9 := hide (HBV.out.trans (HB8.out.mono HBV.out.size))
        clear z0 z1 HQC HQD HQA HQB HGT HGI
        generalize gt t = w8 at *
        have HFI := hide (HB7.out.trans (HB9.out.mono HB7.out.size))
        go_wp2_with fail
        go_ret
        exact ⟨ret_bool (by simp), HFI.out⟩
      · rintro a b v w1 cnt1 hk hlk hM hrg1 hlt hg1 hs1 hen
        simp only [poVal] at hen ⊢
        have HRG1 := hide hrg1
        have HLT := hide hlt
        have HKD := hide hk
        have hr := HRG.out.lt
        have hB1 : RowKit.Below w12.heap.size w12 w1 := HBW.out.trans ⟨hg1.os, hg1.tape, hg1.output, hg1.size, fun i hi => hg1.block i (Nat.lt_of_lt_of_le hi HBW.out.size) (by simp; omega)⟩
        have HBN := hide hB1
        clear hk hlk hM hrg1 hlt hg1 hs1 hB1 hr
        have HBV := hide (HB12.out.trans ((HBN.out.trans ((below_alloc2 w1 (.cells #[.int .i64 a, .int .i64 b] 27)).mono HBN.out.size)).mono HB12.out.size))
        have HBM := hide (HBN.out.trans ((below_alloc2 w1 (.cells #[.int .i64 a, .int .i64 b] 27)).mono HBN.out.size))
        have HXK := hide (And.intro (BoxV.new w1 #[.int .i64 a, .int .i64 b] 27) (show w1.heap.size < (w1.alloc (.cells #[.int .i64 a, .int .i64 b] 27)).heap.size from by simp))
        have HRG2 := hide (HRG1.out.below (below_alloc' w1 (.cells #[.int .i64 a, .int .i64 b] 27)))
        obtain ⟨CV, hCV⟩ : ∃ CV : Nat, cntF 14 14 (roundS n.devs n.ls K2 (a, b)) = CV := ⟨_, rfl⟩
        have HQA := hide (fun (w' : World) (hb : RowKit.Below w7.heap.size w7 w') => HRCA.out w' hb a b HKD.out.1 HKD.out.2)
        have HQB := hide (fun (w' : World) (hb : RowKit.Below w7.heap.size w7 w') => HRCB.out w' hb a b HKD.out.1 HKD.out.2)
        simp only [hCV] at HQA HQB
        clear hCV HRG1 HBN
        go_wp2_with fail
        clear hen
        generalize World.alloc w1 _ = w2 at *
        generalize w1.heap.size = KB at *
        refine wp_region_abs (by kernel_rfl) (by kernel_rfl) ?_
        intro TT hT gt hg1 hgi
        have HGT := hide hg1
        have HGI := hide hgi
        clear hg1 hgi
        have z0 : ∀ t, (gt t).cell? ⟨KB, 0, none⟩ = some (.int .i64 a) := fun t => (HXK.out.1.below (HGT.out t) HXK.out.2).1 0 _ rfl
        have z1 : ∀ t, (gt t).cell? ⟨KB, 1, none⟩ = some (.int .i64 b) := fun t => (HXK.out.1.below (HGT.out t) HXK.out.2).1 1 _ rfl
        have HQC := hide (fun t => HQA.out (gt t) (HBV.out.trans ((HGT.out t).mono HBV.out.size)))
        have HQD := hide (fun t => HQB.out (gt t) (HBV.out.trans ((HGT.out t).mono HBV.out.size)))
        repeat (go_big_quiet_step ((first | (go_at_call 14; exact inAbs HGT.out HGI.out (HQC.out _)) | (go_at_call 15; exact inAbs HGT.out HGI.out (HQD.out _)))))
        refine wpQuiet_nil ?_
        intro _ hw'
        obtain ⟨t, rfl⟩ := hw'
        have HB8 := hide (HGT.out t)
        have HB9 := hide (HBV.out.trans (HB8.out.mono HBV.out.size))
        clear z0 z1 HQC HQD HQA HQB HGT HGI
        generalize gt t = w8 at *
        have HRG3 := hide (HRG2.out.below HB8.out)
        have HBM3 := hide (HBM.out.trans (HB8.out.mono HBM.out.size))
        go_wp2_with fail
        go_roundw
        case rel => exact ⟨_, cnt1, HRG3, HBM3⟩
        case measure =>
          rw [HRG3.out.left_eq, HCN.out]
          exact HLT.out
theorem reachSays_walk (n : NetV) (most x y : Int) (p : P4) (m : M4) (W : World) (hn : NetAt W W.heap.size n) (hmo : i64ok most) (hx : i64ok x) (hy : i64ok y) (hp : p.ok) (hm : m.ok) :
    Calls Tryz.prog 3 #[n.val, .int .i64 most, .agg #[.int .i64 x, .int .i64 y], .agg #[.int .i64 p.src, .int .i64 p.dst, .int .i64 p.sport, .int .i64 p.dport], .agg #[.int .u16 m.src, .int .u16 m.dst, .int .u8 m.sport, .int .u8 m.dport]] W fun e W' => e = .returned (.bool true) ∧ RowKit.Below W.heap.size W W' := by
  by_cases hE : netE n.devs n.ls = 0
  · by_cases hb : badMostR most
    · exact reachSays_bad n most x y p m W hn hmo hx hy hp hm (.inr hb)
    · unfold badMostR at hb
      obtain ⟨k, rfl⟩ : ∃ k : Nat, most = (k : Int) := ⟨most.toNat, by omega⟩
      exact reachSays_good n k x y p m W hn hx hy hp hm hE (by omega) (by omega)
  · exact reachSays_bad n most x y p m W hn hmo hx hy hp hm (.inl hE)
end Go.Proofs.YtifkacnoiocebaaGreat
namespace Go.Proofs.YtifkacnoiocebaaGreat
open Go.ChangeAt Go.ChangeShapes Go.RowKit Go.WideShapes
section
variable {H : Type} {enc : TypeId × Value → H} {w : World} {base : Nat} {spare : Nat → Bool} {held : Bool} {r : Reach} {b0 : Nat}
theorem Tryz.cellsPlace2 : Tryz.prog.cellsOf 27 = 2 := by kernel_rfl
theorem read_place {n : Nat} {cs : List Value} {y : DataW H × List MemPlace} (h : DataW.trod enc Tryz.prog w base spare held n 27 cs = some y) : ∃ a b : Int, (i64ok a ∧ i64ok b) ∧ cs = [.int .i64 a, .int .i64 b] := by
  obtain ⟨xs, n', _, _, hlen, hxl, hf⟩ := DataW.trod_struct Tryz.underlying27 h
  rw [Tryz.cellsPlace2] at hlen
  match cs, hlen with
  | [c0, c1], _ =>
    have h0 := hf 0 _ rfl
    have h1 := hf 1 _ rfl
    obtain ⟨y0, e0⟩ := get_some (xs := xs) (i := 0) (by rw [hxl]; decide)
    obtain ⟨y1, e1⟩ := get_some (xs := xs) (i := 1) (by rw [hxl]; decide)
    rw [e0] at h0
    rw [e1] at h1
    simp [cellsI1] at h0 h1
    obtain ⟨a, rfl, ha⟩ := trod_i64 h0
    obtain ⟨b, rfl, hb⟩ := trod_i64 h1
    exact ⟨a, b, ⟨ha, hb⟩, rfl⟩
theorem open_place {v : Value} {d : DataW H} {p : List MemPlace} (hv : Value.okWide Tryz.prog w r b0 27 v) (h : DataW.Trod enc Tryz.prog w base spare held 27 v d p) : ∃ x y : Int, v = .agg #[.int .i64 x, .int .i64 y] ∧ i64ok x ∧ i64ok y := by
  obtain ⟨cs, rfl, hsz⟩ := okWide_struct Tryz.underlying27 hv
  obtain ⟨fuel, hf⟩ := h
  obtain ⟨a, b, hok, hc⟩ := read_place (cs := cs.toList) hf
  refine ⟨a, b, ?_, hok⟩
  have : cs = #[.int .i64 a, .int .i64 b] := by rw [← Array.toList_inj]; exact hc
  rw [this]
end
open Go.Maps
theorem reachSays_lifted (os : Os) (started : os.Started) (H : Type) (enc : TypeId × Value → H) :
    ReturnsInHanded {} Tryz.checked os 3 .any (Rows.reachSaysSpec.pre6 enc Tryz.prog Tryz.f3 Rows.reachSaysRow.domain false) (Rows.reachSaysSpec.post enc Tryz.prog Tryz.f3 false true false false) :=
  law_lifted (C := Tryz.checked) (tb := 4) Tryz.own started (by kernel_rfl) Tryz.func3 Tryz.laidOut (by kernel_rfl) rfl (by kernel_rfl) Tryz.underlying4
    (fun ds h => by
      match ds, h with
      | [_, _, _, _, _], _ => exact ⟨rfl, rfl, rfl⟩)
    (ChangeSpec.witness6 (enc := enc) (C := Tryz.checked) false ⟨#[], #[.agg #[.slice none 0 0, .slice none 0 0], .int .i64 0, .agg #[.int .i64 0, .int .i64 0], .agg #[.int .i64 0, .int .i64 0, .int .i64 0, .int .i64 0], .agg #[.int .u16 0, .int .u16 0, .int .u8 0, .int .u8 0]], []⟩ 8 (by kernel_rfl) (by kernel_rfl) (by kernel_rfl) (by kernel_rfl))
    (fun W base args ds p hval0 hA0 hlt hsz => by
      have hval : ∀ (j : Nat) t v, Tryz.f3.params[j]? = some t → args[j]? = some v → Value.okWide Tryz.prog W .any base t v := hval0
      have hA : DataW.TrodAll enc Tryz.prog W 0 (fun _ => true) true Tryz.f3.params.toList args.toList ds p := hA0
      rw [Tryz.params3] at hA hval
      obtain ⟨v0, vs0, d0, ds0, p0, q0, hargs, rfl, rfl, h0, r0⟩ := args_cons hA
      obtain ⟨v1, vs1, d1, ds1, p1, q1, rfl, rfl, rfl, h1, r1⟩ := args_cons r0
      obtain ⟨v2, vs2, d2, ds2, p2, q2, rfl, rfl, rfl, h2, r2⟩ := args_cons r1
      obtain ⟨v3, vs3, d3, ds3, p3, q3, rfl, rfl, rfl, h3, r3⟩ := args_cons r2
      obtain ⟨v4, vs4, d4, ds4, p4, q4, rfl, rfl, rfl, h4, r4⟩ := args_cons r3
      obtain ⟨rfl, rfl, rfl⟩ := args_nil r4
      obtain rfl : args = #[v0, v1, v2, v3, v4] := arr_eq hargs
      obtain ⟨n0, hn0, rfl⟩ := open_net (hval 0 _ v0 rfl rfl) h0
      obtain ⟨x1, rfl, hx1⟩ := open_i64 (hval 1 _ v1 rfl rfl) h1
      obtain ⟨X2, Y2, rfl, hX2, hY2⟩ := open_place (hval 2 _ v2 rfl rfl) h2
      obtain ⟨a3, b3, c3, e3, rfl, ha3, hb3, hc3, he3⟩ := open_packet (hval 3 _ v3 rfl rfl) h3
      obtain ⟨ma4, mb4, mc4, md4, rfl, hma4, hmb4, hmc4, hmd4⟩ := open_match (hval 4 _ v4 rfl rfl) h4
      exact reachSays_walk n0 x1 X2 Y2 ⟨a3, b3, c3, e3⟩ ⟨ma4, mb4, mc4, md4⟩ W hn0 hx1 hX2 hY2 ⟨ha3, hb3, hc3, he3⟩ ⟨hma4, hmb4, hmc4, hmd4⟩)
theorem reachSays_holds : Rows.ReachSaysSaid :=
  OpenClaim.holds_of_wide 3 Tryz.f3 rfl rfl rfl rfl rfl rfl rfl ⟨rfl, rfl, rfl, rfl, rfl⟩ rfl rfl rfl rfl rfl (by kernel_rfl) Tryz.func3 (by kernel_rfl)
    (of_decide_eq_true (by kernel_rfl)) (by unfold Func.isWrapper; first | (rw [if_pos (by decide +kernel)]; kernel_rfl) | (rw [if_neg (by decide +kernel)]; exact ⟨rfl, rfl⟩))
    (fun os started H enc _ => reachSays_lifted os started H enc)
end Go.Proofs.YtifkacnoiocebaaGreat
