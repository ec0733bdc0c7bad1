/- A part of the proof: TaleD. -/
import Derived.Test.YthaiffjalgionaaWp35

set_option linter.unusedVariables false
set_option linter.unusedSimpArgs false
namespace Go.Proofs.Ythaiffjalgionaa
open Go.RowKit Go.Maps

structure MB (w0 : World) (Z : List (Nat × Array Value)) (g : Nat) (n : NetV) (A0 A : Option Addr) (c : Nat) (Lf : List FactV) (w : World) : Prop where
  m : MindAt w g n A c Lf
  near : Near (fun k => k = g ∨ A0.map (·.block) = some k) w0.heap.size w0 w
  na : ∀ a, A = some a → A0.map (·.block) = some a.block ∨ w0.heap.size ≤ a.block
  nn : NetOn0 (fun j => j < w0.heap.size) n
  gl : g < w0.heap.size
  z : ∀ x ∈ Z, BoxV w x.1 x.2 ∧ x.1 < w.heap.size ∧ w0.heap.size ≤ x.1 ∧ A.map (·.block) ≠ some x.1
section
variable {w0 w w' : World} {Z : List (Nat × Array Value)} {g : Nat} {n : NetV} {A0 A A' : Option Addr} {c c' : Nat} {Lf L' : List FactV}
theorem MB.start (h : MindAt w0 g n A c Lf) (hn : NetOn0 (fun j => j < w0.heap.size) n) : MB w0 [] g n A A c Lf w0 := ⟨h, Near.refl _ _ _, fun a e => Or.inl (by rw [e]; rfl), hn, h.glt, fun x hx => by cases hx⟩
theorem MB.below (h : MB w0 Z g n A0 A c Lf w) (hb : Below w.heap.size w w') : MB w0 Z g n A0 A c Lf w' :=
  ⟨h.m.below hb, h.near.trans ((Near.of_below hb).mono h.near.size), h.na, h.nn, h.gl, fun x hx => ⟨(h.z x hx).1.below hb (h.z x hx).2.1, Nat.lt_of_lt_of_le (h.z x hx).2.1 hb.size, (h.z x hx).2.2⟩⟩
theorem MB.d (h : MB w0 Z g n A0 A c Lf w) : MB w0 Z g n A0 A c Lf w.drew := h.below (Below.refl _ _).drew
theorem MB.al (h : MB w0 Z g n A0 A c Lf w) (vs : Array Value) (t : TypeId) : MB w0 ((w.heap.size, vs) :: Z) g n A0 A c Lf (w.alloc (.cells vs t)) := by
  have q := h.below ((Below.refl _ _).alloc (Nat.le_refl _) (.cells vs t))
  refine ⟨q.m, q.near, q.na, q.nn, q.gl, fun x hx => ?_⟩
  rcases List.mem_cons.1 hx with rfl | hx
  · refine ⟨BoxV.new _ _ _, by simp, h.near.size, fun e => ?_⟩
    cases hA : A with
    | none => rw [hA] at e; cases e
    | some a =>
      rw [hA] at e
      have := (h.m.ablk a hA).2
      simp at e
      omega
  · exact q.z x hx
theorem MB.step (h : MB w0 Z g n A0 A c Lf w) (hm : MindAt w' g n A' c' L') (hn : Near (fun k => k = g ∨ A.map (·.block) = some k) w.heap.size w w') (hA : ∀ a, A' = some a → A.map (·.block) = some a.block ∨ w.heap.size ≤ a.block) : MB w0 Z g n A0 A' c' L' w' := by
  have hs := h.near.size
  have key : ∀ k, k < w0.heap.size → A.map (·.block) = some k → A0.map (·.block) = some k := fun k hk e => by
    cases hA0 : A with
    | none => rw [hA0] at e; cases e
    | some a =>
      rw [hA0] at e
      have e2 : a.block = k := by simpa using e
      rcases h.na a hA0 with q | q
      · rw [← e2]; exact q
      · omega
  refine ⟨hm, h.near.trans ⟨hn.os, hn.tape, hn.output, hn.size, fun k hk hp => hn.block k (by omega) (fun e => hp ?_)⟩, fun a e => ?_, h.nn, h.gl, fun x hx => ?_⟩
  · rcases e with e | e
    · exact Or.inl e
    · exact Or.inr (key k hk e)
  · rcases hA a e with q | q
    · cases hA0 : A with
      | none => rw [hA0] at q; cases q
      | some a' =>
        rw [hA0] at q
        have e2 : a'.block = a.block := by simpa using q
        rcases h.na a' hA0 with r | r
        · left; rw [r, e2]
        · right; omega
    · right; omega
  · obtain ⟨z1, z2, z3, z4⟩ := h.z x hx
    refine ⟨z1.near hn z2 (fun e => ?_), Nat.lt_of_lt_of_le z2 hn.size, z3, fun e => ?_⟩
    · rcases e with e | e
      · have := h.gl; omega
      · exact z4 e
    · cases hA0 : A' with
      | none => rw [hA0] at e; cases e
      | some a =>
        rw [hA0] at e
        have e2 : a.block = x.1 := by simpa using e
        rcases hA a hA0 with q | q
        · exact z4 (by rw [q, e2])
        · omega
theorem MB.set {N : Nat} {vs : Array Value} (h : MB w0 ((N, vs) :: Z) g n A0 A c Lf w) (j : Nat) (v : Value) : MB w0 [(N, vs.setIfInBounds j v)] g n A0 A c Lf (w.setCell ⟨N, j, none⟩ v) := by
  obtain ⟨h1, h2, h3, h4⟩ := h.z (N, vs) List.mem_cons_self
  have hb : Below w0.heap.size w (w.setCell ⟨N, j, none⟩ v) := (Below.refl _ _).setCell h3 v
  have hn := near_set w N j v
  have hg := h.gl
  have h3' : w0.heap.size ≤ N := h3
  refine ⟨h.m.apart hn (by omega) (fun a ha e => h4 (by rw [ha, ← e]; rfl)) (h.nn.weak (fun k e => by omega)), h.near.trans (Near.of_below hb), h.na, h.nn, h.gl, fun x hx => ?_⟩
  obtain rfl := List.mem_singleton.1 hx
  exact ⟨h1.set j v, by simpa [World.setCell] using h2, h3, h4⟩
theorem MB.leaf {N : Nat} {vs : Array Value} (h : MB w0 ((N, vs) :: Z) g n A0 A c Lf w) : ∃ N' w', N = N' ∧ w = w' ∧ (BoxV w' N' vs ∧ ∃ A' c', MindAt w' g n A' c' Lf ∧ Near (fun k => k = g ∨ A0.map (·.block) = some k) w0.heap.size w0 w' ∧ ∀ a, A' = some a → A0.map (·.block) = some a.block ∨ w0.heap.size ≤ a.block) :=
  ⟨_, _, rfl, rfl, (h.z _ List.mem_cons_self).1, A, c, h.m, h.near, h.na⟩
theorem MB.box (h : MB w0 Z g n A0 A c Lf w) {N : Nat} {vs : Array Value} (hx : BoxV w0 N vs) (hN : N < w0.heap.size) (hng : N ≠ g ∧ A0.map (·.block) ≠ some N) : BoxV w N vs ∧ N ≠ w.heap.size ∧ w.heap.size ≠ N := by
  have hs := h.near.size
  exact ⟨hx.near h.near hN (fun e => by
    rcases e with e | e
    · exact hng.1 e
    · exact hng.2 e), by omega, by omega⟩
end

set_option maxRecDepth 100000 in
set_option maxHeartbeats 16000000 in
theorem taleDo_walk {W0 W : World} {F : Nat → Prop} {gt0 g : Nat} {n : NetV} {A1 : Option Addr} {c1 : Nat} {A : Option Addr} {c : Nat} {T : TS} (h : TaleAt W0 W F gt0 g n A1 c1 A c T) {ds : List Dev} {ls : List LinkV} (hds : n.devs = ds) (hls : n.ls = ls) (hE : netE ds ls = 0) (x : ActV) (hx : x.ok) (hL : T.L.length ≤ 1000) (hl : T.S.length < 100000) :
    Calls Try.prog 37 #[.pointer (some ⟨gt0, 0, none⟩), .agg #[.int .i64 x.kind, .int .i64 x.dev, .int .i64 x.port, .int .i64 x.p.src, .int .i64 x.p.dst, .int .i64 x.p.sport, .int .i64 x.p.dport, .int .i64 x.ch]] W fun e W' => e = .returned (.int .i64 (doT ds ls T x).1) ∧ ∃ A1' c1' A' c' F', TaleAt W0 W' F' gt0 g n A1' c1' A' c' (doT ds ls T x).2 ∧ Near F W.heap.size W W' ∧ ∀ j, F' j → F j ∨ W.heap.size ≤ j := by
  have HW := hide h
  have hdl := devs_len h.m.net
  have hdn : n.dn ≤ 10 := by rw [← hdl, hds]; exact (netE_ok hE).dl
  have hln : n.ln ≤ 15 := by have h1 := (netE_ok hE).ll; have := h.m.net.llen; rw [← hls] at h1; omega
  have hgl := (h.fo g h.fg).2
  have htl := (h.fo gt0 h.ft).2
  have HFL := hide h.fo
  clear h
  have HD := hide (And.intro hds hls)
  have HE := hide hE
  have HDL := hide hdl
  have HX := hide hx
  clear hds hls hE hdl hx
  obtain ⟨i1, i2⟩ := HX.out.d
  have i3 : (0 : Int) ≤ (n.dn : Int) := by omega
  have i4 : (n.dn : Int) ≤ 10 := by omega
  by_cases h1 : x.kind = 1
  case pos =>
    have HT := hide (show doT ds ls T x = ((injS ds ls T.S x.dev x.p).1, ⟨T.L, (injS ds ls T.S x.dev x.p).2⟩) from if_pos h1)
    have e1 : (x.kind == 1) = true := by simpa using h1
    clear h1
    go_enter Try.func37, Try.ntmps37
    go_wp2_with fail
    generalize hG : World.alloc W _ = W1
    have HX1 := hide (boxes1 hG).1
    clear hG
    obtain ⟨B, hB⟩ : ∃ B, inR x.dev 0 ((n.dn : Int) - 1) = B := ⟨_, rfl⟩
    have hc1 := hide (fun w => inR_is w hB)
    refine wp_region_abs (by kernel_rfl) (by kernel_rfl) ?_
    intro T0 hT gt hg1 hgi
    have HGT := hide hg1
    have HGI := hide hgi
    clear hg1 hgi
    have k1 : ∀ t, (gt t).cell? ⟨W.heap.size, 1, none⟩ = some (.int .i64 x.dev) := fun t => ((HX1.out.below (HGT.out t)).get 0 rfl).1 1 _ rfl
    have kt : ∀ t, (gt t).cell? ⟨gt0, 0, none⟩ = some (.pointer (some ⟨g, 0, none⟩)) := fun t => (HW.out.below (HX1.out.below (HGT.out t)).bl).t0
    have kd : ∀ t, (gt t).cell? ⟨g, 0, none⟩ = some (.slice n.dA n.dn n.dc) := fun t => (HW.out.below (HX1.out.below (HGT.out t)).bl).m.c0
    repeat (go_big_quiet_step ((go_at_call 19; exact inAbsSame (hc1.out _))))
    refine wpQuiet_nil ?_
    intro _ hw'
    obtain ⟨t, rfl⟩ := hw'
    have HX2 := hide (HX1.out.below (HGT.out t))
    generalize gt t = W2 at *
    clear HGT HGI k1 kt kd
    clear HX1 hc1
    cases B
    case false =>
      have HS := hide (show doT ds ls T x = (4, ⟨T.L, T.S⟩) from by rw [HT.out, injS_out (by rw [← HD.out.1, HDL.out]; exact hB)])
      go_wp2
      go_ret
      exact ⟨ret_i64 (by rw [HS.out]), A1, c1, A, c, F, by rw [HS.out]; exact HW.out.below HX2.out.bl, Near.of_below HX2.out.bl, fun j e => Or.inl e⟩
    simp only [inR, Bool.and_eq_true, decide_eq_true_eq] at hB
    have hn := HW.out.m.net
    obtain ⟨j, hj⟩ : ∃ j : Nat, x.dev = (j : Int) := ⟨x.dev.toNat, by omega⟩
    have hjl : j < n.ds.length := by have := hn.dlen; omega
    obtain ⟨r, hr⟩ : ∃ r, n.ds[j]? = some r := ⟨_, List.getElem?_eq_getElem hjl⟩
    obtain ⟨db, od, hdA, hdb0, hdb1⟩ := hn.ds.2 (by omega)
    clear hdb0 hdb1 hn
    have hdr : ds[(j : Int).toNat]? = some r.dev := by rw [← HD.out.1, NetV.devs, List.getElem?_map, Int.toNat_natCast, hr]; rfl
    have HI := hide (show injS ds ls T.S x.dev x.p = injR ls T.S (j : Int) x.p r.dev from by rw [hj]; exact injS_some (by simp only [inR, Bool.and_eq_true, decide_eq_true_eq]; rw [← HD.out.1, HDL.out]; omega) hdr)
    have j1 : (0 : Int) ≤ (j : Int) := by omega
    have j2 : (j : Int) < (n.dn : Int) := by omega
    have HRR := hide hr
    clear hdr hB hr
    have k0 : W2.cell? ⟨W.heap.size, 1, none⟩ = some (.int .i64 (j : Int)) := by rw [← hj]; exact (HX2.out.get 0 rfl).1 1 _ rfl
    have kt : W2.cell? ⟨gt0, 0, none⟩ = some (.pointer (some ⟨g, 0, none⟩)) := (HW.out.below HX2.out.bl).t0
    have k2 : W2.cell? ⟨g, 0, none⟩ = some (.slice (some ⟨db, od, none⟩) n.dn n.dc) := by have q := (HW.out.below HX2.out.bl).m.c0; rw [hdA] at q; exact q
    obtain ⟨_, q0, q1, q2, q3, q4, q5, q6⟩ := dev_get (n := n.dn) (by have q := (HW.out.below HX2.out.bl).m.net.ds; rw [hdA] at q; exact q) HRR.out
    go_wp2_with fail
    -- R5
    go_region_held3 (fun w' => w'.cell? ⟨W.heap.size, 1, none⟩ = some (.int .i64 (j : Int)) ∧ w'.cell? ⟨gt0, 0, none⟩ = some (.pointer (some ⟨g, 0, none⟩)) ∧ w'.cell? ⟨g, 0, none⟩ = some (.slice (some ⟨db, od, none⟩) n.dn n.dc) ∧ w'.cell? ⟨db, od + j * 7, none⟩ = some (.string r.name) ∧ w'.cell? ⟨db, od + j * 7 + 1, none⟩ = some (.int .i64 r.kind) ∧ w'.cell? ⟨db, od + j * 7 + 2, none⟩ = some (.int .i64 r.addr) ∧ w'.cell? ⟨db, od + j * 7 + 3, none⟩ = some (.int .u8 r.pool) ∧ w'.cell? ⟨db, od + j * 7 + 4, none⟩ = some (.slice r.bA r.bn r.bc) ∧ w'.cell? ⟨db, od + j * 7 + 5, none⟩ = some (.slice r.rA r.rn r.rc) ∧ w'.cell? ⟨db, od + j * 7 + 6, none⟩ = some (.slice r.tA r.tn r.tc)) (go_keep) (fail)
    have HX4 := hide (HX2.out.more (N := W2.heap.size) (vs := r.arr) ((Below.refl _ _).alloc (Nat.le_refl _) (.cells #[.string r.name, .int .i64 r.kind, .int .i64 r.addr, .int .u8 r.pool, .slice r.bA r.bn r.bc, .slice r.rA r.rn r.rc, .slice r.tA r.tn r.tc] 97)) (BoxV.new W2 #[.string r.name, .int .i64 r.kind, .int .i64 r.addr, .int .u8 r.pool, .slice r.bA r.bn r.bc, .slice r.rA r.rn r.rc, .slice r.tA r.tn r.tc] 97) (by simp))
    clear k0 kt k2 q0 q1 q2 q3 q4 q5 q6
    obtain ⟨D, hDD⟩ : ∃ D, W2.heap.size = D := ⟨_, rfl⟩
    rw [hDD] at HX4
    rw [hDD]
    have HX5 := hide (HX4.out.below (Below.refl _ _).drew)
    clear hDD HX2 HX4
    generalize World.drew _ = W5 at *
    have dk : W5.cell? ⟨D, 1, none⟩ = some (.int .i64 r.kind) := (HX5.out.get 0 rfl).1 1 _ rfl
    have da : W5.cell? ⟨D, 2, none⟩ = some (.int .i64 r.addr) := (HX5.out.get 0 rfl).1 2 _ rfl
    obtain ⟨b0, b1, b2, b3, b4, b5, b6, b7⟩ := cells8 (show BoxV W5 W.heap.size #[.int .i64 x.kind, .int .i64 x.dev, .int .i64 x.port, .int .i64 x.p.src, .int .i64 x.p.dst, .int .i64 x.p.sport, .int .i64 x.p.dport, .int .i64 x.ch] from HX5.out.get 1 rfl)
    by_cases h3 : r.kind ≠ 1
    case pos =>
      have HS := hide (show doT ds ls T x = (1, ⟨T.L, T.S⟩) from by rw [HT.out, HI.out, injR_kind h3])
      have e3 : (r.kind != 1) = true := by simpa using h3
      go_wp2
      go_ret
      exact ⟨ret_i64 (by rw [HS.out]), A1, c1, A, c, F, by rw [HS.out]; exact HW.out.below HX5.out.bl, Near.of_below HX5.out.bl, fun j e => Or.inl e⟩
    have e3 : (r.kind != 1) = false := by simpa using h3
    have HK1 := hide (Classical.not_not.1 h3)
    clear h3
    obtain ⟨B, hB⟩ : ∃ B, rightB x.p = B := ⟨_, rfl⟩
    go_wp2_with fail
    refine (right_is x.p W5 B hB).mono ?_
    rintro e W6 ⟨rfl, hb⟩
    have HX6 := hide (HX5.out.below hb)
    clear hb HX5 dk da b0 b1 b2 b3 b4 b5 b6 b7
    have da : W6.cell? ⟨D, 2, none⟩ = some (.int .i64 r.addr) := (HX6.out.get 0 rfl).1 2 _ rfl
    obtain ⟨b0, b1, b2, b3, b4, b5, b6, b7⟩ := cells8 (show BoxV W6 W.heap.size #[.int .i64 x.kind, .int .i64 x.dev, .int .i64 x.port, .int .i64 x.p.src, .int .i64 x.p.dst, .int .i64 x.p.sport, .int .i64 x.p.dport, .int .i64 x.ch] from HX6.out.get 1 rfl)
    cases B
    case false =>
      have HS := hide (show doT ds ls T x = (1, ⟨T.L, T.S⟩) from by rw [HT.out, HI.out, injR_right HK1.out hB])
      go_wp2
      go_ret
      exact ⟨ret_i64 (by rw [HS.out]), A1, c1, A, c, F, by rw [HS.out]; exact HW.out.below HX6.out.bl, Near.of_below HX6.out.bl, fun j e => Or.inl e⟩
    have HK2 := hide hB
    clear hB
    by_cases h5 : x.p.src ≠ r.addr
    case pos =>
      have HS := hide (show doT ds ls T x = (1, ⟨T.L, T.S⟩) from by rw [HT.out, HI.out, injR_src HK1.out HK2.out h5])
      have e5 : (x.p.src != r.addr) = true := by simpa using h5
      go_wp2
      go_ret
      exact ⟨ret_i64 (by rw [HS.out]), A1, c1, A, c, F, by rw [HS.out]; exact HW.out.below HX6.out.bl, Near.of_below HX6.out.bl, fun j e => Or.inl e⟩
    have e5 : (x.p.src != r.addr) = false := by simpa using h5
    have HK3 := hide (Classical.not_not.1 h5)
    clear h5
    go_wp2_with fail
    clear da b0 b1 b2 b3 b4 b5 b6 b7 e5 e3
    -- R8
    obtain ⟨PR, hPR⟩ : ∃ PR, peerF ls ((j : Int), 0) = PR := ⟨_, rfl⟩
    have HPE := hide (fun (w' : World) (hb : Below W.heap.size W w') => refPeer_any (some ⟨db, od, none⟩) n.dn n.dc n.lA n.ln n.lc n.ls (j : Int) 0 w' (by omega) ((HW.out.below hb).m.net.below (Below.refl _ _) (Nat.le_of_lt (HW.out.below hb).m.glt)).ls)
    simp only [HD.out.2, hPR] at HPE
    have HPZ := hide hPR
    clear hPR
    obtain ⟨PV, hPV⟩ : ∃ PV, peerV PR = PV := ⟨_, rfl⟩
    simp only [hPV] at HPE
    obtain ⟨t1, t2, tb, hPT, HPW⟩ : ∃ t1 t2 tb, PV = .tuple #[.agg #[.int .i64 t1, .int .i64 t2], .bool tb] ∧ Hid (PR = if tb then some (t1, t2) else none) := by
      rw [← hPV]
      cases PR with
      | none => exact ⟨0, 0, false, rfl, hide rfl⟩
      | some x => exact ⟨x.1, x.2, true, rfl, hide rfl⟩
    subst hPT
    clear hPV
    have k0 : W6.cell? ⟨W.heap.size, 1, none⟩ = some (.int .i64 (j : Int)) := by rw [← hj]; exact (HX6.out.get 1 rfl).1 1 _ rfl
    have kt : W6.cell? ⟨gt0, 0, none⟩ = some (.pointer (some ⟨g, 0, none⟩)) := (HW.out.below HX6.out.bl).t0
    have k1 : W6.cell? ⟨g, 0, none⟩ = some (.slice (some ⟨db, od, none⟩) n.dn n.dc) := by have q := (HW.out.below HX6.out.bl).m.c0; rw [hdA] at q; exact q
    have k2 : W6.cell? ⟨g, 1, none⟩ = some (.slice n.lA n.ln n.lc) := (HW.out.below HX6.out.bl).m.c1
    have n1 : W.heap.size ≠ W6.heap.size := by have := (HX6.out.bx _ (List.mem_of_getElem? (i := 1) rfl)).2; simp only at this; omega
    have n2 : g ≠ W6.heap.size := by have := HX6.out.bl.size; omega
    have n5 : gt0 ≠ W6.heap.size := by have := HX6.out.bl.size; omega
    have n3 := Ne.symm n1
    have n4 := Ne.symm n2
    have n6 := Ne.symm n5
    have HG := HX6
    apply cut_region (C := fun NP w' => BX W ((NP, #[.int .i64 t1, .int .i64 t2]) :: [(D, r.arr), (W.heap.size, #[.int .i64 x.kind, .int .i64 x.dev, .int .i64 x.port, .int .i64 x.p.src, .int .i64 x.p.dst, .int .i64 x.p.sport, .int .i64 x.p.dport, .int .i64 x.ch])]) w' ∧ W.heap.size ≤ NP)
    · intro HK
      go_region_held3 (fun w' => w'.cell? ⟨W.heap.size, 1, none⟩ = some (.int .i64 (j : Int)) ∧ w'.cell? ⟨gt0, 0, none⟩ = some (.pointer (some ⟨g, 0, none⟩)) ∧ w'.cell? ⟨g, 0, none⟩ = some (.slice (some ⟨db, od, none⟩) n.dn n.dc) ∧ w'.cell? ⟨g, 1, none⟩ = some (.slice n.lA n.ln n.lc)) (go_keep) ((go_at_call 75; refine (HPE.out _ (by first | exact HG.out.d.bl | exact (HG.out.al _ _).d.box.bl | exact HG.out.bl | exact (HG.out.al _ _).box.bl)).mono ?_; rintro e wp ⟨rfl, hb⟩; (first | (have HG := hide (HG.out.d.below hb); have HBX := HG) | (have HG := hide ((HG.out.al #[.int .i64 0, .int .i64 0] _).d.below hb); have HBX := hide HG.out.box; obtain ⟨z0, z1, zf0, zf1⟩ := HG.out.cells2) | (have HG := hide (HG.out.below hb); have HBX := HG) | (have HG := hide ((HG.out.al #[.int .i64 0, .int .i64 0] _).below hb); have HBX := hide HG.out.box; obtain ⟨z0, z1, zf0, zf1⟩ := HG.out.cells2)); have k0 : wp.cell? ⟨W.heap.size, 1, none⟩ = some (.int .i64 (j : Int)) := (by rw [← hj]; exact (HBX.out.get 1 rfl).1 1 _ rfl); have kt : wp.cell? ⟨gt0, 0, none⟩ = some (.pointer (some ⟨g, 0, none⟩)) := (HW.out.below HBX.out.bl).t0; have k1 : wp.cell? ⟨g, 0, none⟩ = some (.slice (some ⟨db, od, none⟩) n.dn n.dc) := (by have q := (HW.out.below HBX.out.bl).m.c0; rw [hdA] at q; exact q); have k2 : wp.cell? ⟨g, 1, none⟩ = some (.slice n.lA n.ln n.lc) := (HW.out.below HBX.out.bl).m.c1))
      all_goals (first | (obtain ⟨N', w', e1, e2, q⟩ := (HG.out.al #[.int .i64 t1, .int .i64 t2] 37).leafL; rw [e2, e1]; exact HK.out _ _ q) | (obtain ⟨N', w', e1, e2, q⟩ := ((HG.out.set 0 (.int .i64 t1)).set 1 (.int .i64 t2)).leafL; rw [e2, e1]; exact HK.out _ _ q))
    clear k0 kt k1 k2 n1 n2 n3 n4 n5 n6 HG HX6 HPE
    intro NP W9 hFN
    have HX9 := hide hFN.1
    clear hFN
    cases tb
    case false =>
      have HS := hide (show doT ds ls T x = (7, ⟨T.L, T.S⟩) from by rw [HT.out, HI.out, injR_none HK1.out HK2.out HK3.out (HPZ.out.trans HPW.out)])
      go_wp2
      go_ret
      exact ⟨ret_i64 (by rw [HS.out]), A1, c1, A, c, F, by rw [HS.out]; exact HW.out.below HX9.out.bl, Near.of_below HX9.out.bl, fun j e => Or.inl e⟩
    have HS := hide (show doT ds ls T x = (0, ⟨T.L, comeS T.S ⟨t1, t2, x.p⟩⟩) from by rw [HT.out, HI.out, injR_some HK1.out HK2.out HK3.out (z := (t1, t2)) (HPZ.out.trans HPW.out)])
    obtain ⟨u0, u1⟩ : W9.cell? ⟨NP, 0, none⟩ = some (.int .i64 t1) ∧ W9.cell? ⟨NP, 1, none⟩ = some (.int .i64 t2) := ⟨(HX9.out.get 0 rfl).1 0 _ rfl, (HX9.out.get 0 rfl).1 1 _ rfl⟩
    obtain ⟨b0, b1, b2, b3, b4, b5, b6, b7⟩ := cells8 (show BoxV W9 W.heap.size #[.int .i64 x.kind, .int .i64 x.dev, .int .i64 x.port, .int .i64 x.p.src, .int .i64 x.p.dst, .int .i64 x.p.sport, .int .i64 x.p.dport, .int .i64 x.ch] from HX9.out.get 2 rfl)
    go_wp2_with fail
    clear u0 u1 b0 b1 b2 b3 b4 b5 b6 b7
    refine (taleComes_walk (HW.out.below HX9.out.bl) ⟨t1, t2, x.p⟩ (by omega)).mono ?_
    rintro e W10 ⟨rfl, A', c', F', hw, hn, hF⟩
    have HW6 := hide hw
    have HN6 := hide hn
    have HF6 := hide hF
    clear hw hn hF
    go_wp2
    go_ret
    refine ⟨ret_i64 (by rw [HS.out]), A1, c1, A', c', F', by rw [HS.out]; exact HW6.out, (Near.of_below HX9.out.bl).trans (HN6.out.mono HX9.out.bl.size), fun j e => ?_⟩
    rcases HF6.out j e with e | e
    · exact Or.inl e
    · right; have := HX9.out.bl.size; omega
  have e1 : (x.kind == 1) = false := by simpa using h1
  have H1 := hide h1
  clear h1
  by_cases h2 : x.kind = 2
  case pos =>
    have e2 : (x.kind == 2) = true := by simpa using h2
    have H2 := hide h2
    clear h2
    obtain ⟨B, hB⟩ : ∃ B, (T.S.any fun z => eqA (⟨x.dev, x.port, x.p⟩ : ArrV) z) = B := ⟨_, rfl⟩
    have HCT := hide (fun (w' : World) (hb : Below W.heap.size W w') => containsArr_any T.S A T.S.length c (⟨x.dev, x.port, x.p⟩ : ArrV) w' (by omega) (own_sl ArrV.len (HW.out.below hb).own rfl))
    rw [hB] at HCT
    rw [any_eqA] at hB
    go_enter Try.func37, Try.ntmps37
    go_wp2_with fail
    generalize hG : World.alloc (World.alloc W _) _ = W2
    have HX2 := hide (boxes2 hG).1
    clear hG
    refine wp_region_abs (by kernel_rfl) (by kernel_rfl) ?_
    intro T0 hT gt hg1 hgi
    have HGT := hide hg1
    have HGI := hide hgi
    clear hg1 hgi
    have kt : ∀ t, (gt t).cell? ⟨gt0, 1, none⟩ = some (.slice A T.S.length c) := fun t => (HW.out.below (HX2.out.below (HGT.out t)).bl).t1
    have p0 : ∀ t, (gt t).cell? ⟨W.heap.size + 1, 0, none⟩ = some (.int .i64 x.dev) := fun t => ((HX2.out.below (HGT.out t)).get 0 rfl).1 0 _ rfl
    have p1 : ∀ t, (gt t).cell? ⟨W.heap.size + 1, 1, none⟩ = some (.int .i64 x.port) := fun t => ((HX2.out.below (HGT.out t)).get 0 rfl).1 1 _ rfl
    have b3 : ∀ t, (gt t).cell? ⟨W.heap.size, 3, none⟩ = some (.int .i64 x.p.src) := fun t => ((HX2.out.below (HGT.out t)).get 1 rfl).1 3 _ rfl
    have b4 : ∀ t, (gt t).cell? ⟨W.heap.size, 4, none⟩ = some (.int .i64 x.p.dst) := fun t => ((HX2.out.below (HGT.out t)).get 1 rfl).1 4 _ rfl
    have b5 : ∀ t, (gt t).cell? ⟨W.heap.size, 5, none⟩ = some (.int .i64 x.p.sport) := fun t => ((HX2.out.below (HGT.out t)).get 1 rfl).1 5 _ rfl
    have b6 : ∀ t, (gt t).cell? ⟨W.heap.size, 6, none⟩ = some (.int .i64 x.p.dport) := fun t => ((HX2.out.below (HGT.out t)).get 1 rfl).1 6 _ rfl
    repeat (go_big_quiet_step ((go_at_call 38; exact inAbs HGT.out HGI.out (HCT.out _ (HX2.out.below (HGT.out _)).bl))))
    refine wpQuiet_nil ?_
    intro _ hw'
    obtain ⟨t, rfl⟩ := hw'
    have HX3 := hide (HX2.out.below (HGT.out t))
    generalize gt t = W3 at *
    clear HGT HGI kt p0 p1 b3 b4 b5 b6
    clear HX2 HCT
    cases B
    case false =>
      have HS := hide (show doT ds ls T x = (7, ⟨T.L, T.S⟩) from by rw [doT, if_neg H1.out, if_pos H2.out, if_neg (by simpa using hB)])
      go_wp2
      go_ret
      exact ⟨ret_i64 (by rw [HS.out]), A1, c1, A, c, F, by rw [HS.out]; exact HW.out.below HX3.out.bl, Near.of_below HX3.out.bl, fun j e => Or.inl e⟩
    obtain ⟨S, hS⟩ : ∃ S, mindS ds ls T.L x.dev x.port x.p x.ch = S := ⟨_, rfl⟩
    have HS := hide (show doT ds ls T x = (S.1.e, ⟨S.2, S.1.come T.S⟩) from by rw [doT, if_neg H1.out, if_pos H2.out, if_pos (by simpa using hB), hS])
    have HW3 := hide (HW.out.below HX3.out.bl)
    have HH := hide (fun (w' : World) (hm : MindAt w' g n A1 c1 T.L) => mind_as g n A1 c1 T.L x S.1 S.2 (by rw [HD.out.1, HD.out.2]; exact HE.out) HX.out hL (by rw [HD.out.1, HD.out.2, hS]) (by rw [HD.out.1, HD.out.2, hS]) w' hm)
    clear hS hB
    obtain ⟨⟨Se, ⟨St1, St2⟩, ⟨Sa, Sb, Sc, Sd⟩, Sk⟩, L'⟩ := S
    simp only [HandS.val] at HH
    go_wp2_with fail
    have HNB := hide HX3.out.bl
    have hx0 := HX3.out.bx _ (List.mem_of_getElem? (i := 0) rfl)
    have hx1 := HX3.out.bx _ (List.mem_of_getElem? (i := 1) rfl)
    have HB0 := hide (show BoxV W3 (W.heap.size + 1) #[.int .i64 x.dev, .int .i64 x.port] ∧ W.heap.size + 1 < W3.heap.size ∧ W.heap.size + 1 ≠ g ∧ A1.map (·.block) ≠ some (W.heap.size + 1) from ⟨hx0.1, hx0.2, by omega, fun e => by have := (HFL.out _ (HW.out.fa _ e)).2; omega⟩)
    have HB1 := hide (show BoxV W3 W.heap.size #[.int .i64 x.kind, .int .i64 x.dev, .int .i64 x.port, .int .i64 x.p.src, .int .i64 x.p.dst, .int .i64 x.p.sport, .int .i64 x.p.dport, .int .i64 x.ch] ∧ W.heap.size < W3.heap.size ∧ W.heap.size ≠ g ∧ A1.map (·.block) ≠ some W.heap.size from ⟨hx1.1, hx1.2, by omega, fun e => by have := (HFL.out _ (HW.out.fa _ e)).2; omega⟩)
    have HGT := hide (show gt0 < W3.heap.size ∧ W3.cell? ⟨gt0, 0, none⟩ = some (.pointer (some ⟨g, 0, none⟩)) ∧ ¬ (gt0 = g ∨ A1.map (·.block) = some gt0) from ⟨(HW3.out.fo gt0 HW3.out.ft).2, HW3.out.t0, fun e => by
      rcases e with e | e
      · exact HW3.out.tg e
      · exact HW3.out.ta e⟩)
    clear hx0 hx1
    have HG := hide (MB.start HW3.out.m (HW3.out.nn.weak (fun k e => Nat.lt_of_lt_of_le e (Nat.le_of_lt (Nat.lt_of_le_of_lt (HW3.out.fo gt0 HW3.out.ft).1 (HW3.out.fo gt0 HW3.out.ft).2)))))
    have kt := (HG.out.near.cell (a := ⟨gt0, 0, none⟩) HGT.out.1 HGT.out.2.2).trans HGT.out.2.1
    obtain ⟨p0, p1⟩ := cells2 (HG.out.box HB0.out.1 HB0.out.2.1 HB0.out.2.2).1
    obtain ⟨b0, b1, b2, b3, b4, b5, b6, b7⟩ := cells8 (HG.out.box HB1.out.1 HB1.out.2.1 HB1.out.2.2).1
    obtain ⟨n1a, n1b⟩ := (HG.out.box HB0.out.1 HB0.out.2.1 HB0.out.2.2).2
    obtain ⟨n2a, n2b⟩ := (HG.out.box HB1.out.1 HB1.out.2.1 HB1.out.2.2).2
    have n3a := Nat.ne_of_lt (Nat.lt_of_lt_of_le HGT.out.1 HG.out.near.size)
    have n3b := Ne.symm n3a
    apply cut_region (C := fun N w' => BoxV w' N #[.int .i64 St1, .int .i64 St2, .int .i64 Sa, .int .i64 Sb, .int .i64 Sc, .int .i64 Sd] ∧ ∃ A' c', MindAt w' g n A' c' L' ∧ Near (fun k => k = g ∨ A1.map (·.block) = some k) W3.heap.size W3 w' ∧ ∀ a, A' = some a → A1.map (·.block) = some a.block ∨ W3.heap.size ≤ a.block)
    · intro HK
      go_region_held3 (fun w' => w'.cell? ⟨gt0, 0, none⟩ = some (.pointer (some ⟨g, 0, none⟩)) ∧ w'.cell? ⟨W.heap.size + 1, 0, none⟩ = some (.int .i64 x.dev) ∧ w'.cell? ⟨W.heap.size + 1, 1, none⟩ = some (.int .i64 x.port) ∧ w'.cell? ⟨W.heap.size, 3, none⟩ = some (.int .i64 x.p.src) ∧ w'.cell? ⟨W.heap.size, 4, none⟩ = some (.int .i64 x.p.dst) ∧ w'.cell? ⟨W.heap.size, 5, none⟩ = some (.int .i64 x.p.sport) ∧ w'.cell? ⟨W.heap.size, 6, none⟩ = some (.int .i64 x.p.dport) ∧ w'.cell? ⟨W.heap.size, 7, none⟩ = some (.int .i64 x.ch)) (go_keep) ((go_at_call 14; refine (HH.out _ ?_).mono ?_; (first | exact HG.out.d.m | exact (HG.out.al _ _).d.m | exact HG.out.m | exact (HG.out.al _ _).m); rintro e wp ⟨rfl, A1', c1', hm, hn, hA⟩; (first | have HG := hide (HG.out.d.step hm hn hA) | have HG := hide ((HG.out.al _ _).d.step hm hn hA) | have HG := hide (HG.out.step hm hn hA) | have HG := hide ((HG.out.al _ _).step hm hn hA)); have kt := (HG.out.near.cell (a := ⟨gt0, 0, none⟩) HGT.out.1 HGT.out.2.2).trans HGT.out.2.1; obtain ⟨p0, p1⟩ := cells2 (HG.out.box HB0.out.1 HB0.out.2.1 HB0.out.2.2).1; obtain ⟨b0, b1, b2, b3, b4, b5, b6, b7⟩ := cells8 (HG.out.box HB1.out.1 HB1.out.2.1 HB1.out.2.2).1; obtain ⟨n1a, n1b⟩ := (HG.out.box HB0.out.1 HB0.out.2.1 HB0.out.2.2).2; obtain ⟨n2a, n2b⟩ := (HG.out.box HB1.out.1 HB1.out.2.1 HB1.out.2.2).2; have n3a := Nat.ne_of_lt (Nat.lt_of_lt_of_le HGT.out.1 HG.out.near.size); have n3b := Ne.symm n3a; (try obtain ⟨⟨z0, z1, z2, z3, z4, z5⟩, f0, f1, f2, f3, f4, f5⟩ := cells6 (HG.out.z _ List.mem_cons_self).1)))
      all_goals (first | (obtain ⟨N', w', e1, e2, q⟩ := (HG.out.al #[.int .i64 St1, .int .i64 St2, .int .i64 Sa, .int .i64 Sb, .int .i64 Sc, .int .i64 Sd] 43).leaf; rw [e2, e1]; exact HK.out _ _ q) | (obtain ⟨N', w', e1, e2, q⟩ := (((((((HG.out.set 0 (.int .i64 St1)).set 1 (.int .i64 St2)).set 2 (.int .i64 Sa)).set 3 (.int .i64 Sb)).set 4 (.int .i64 Sc)).set 5 (.int .i64 Sd))).leaf; rw [e2, e1]; exact HK.out _ _ q))
    clear HG HH p0 p1 b0 b1 b2 b3 b4 b5 b6 b7 n1a n1b n2a n2b n3a n3b kt
    intro N W4 hFN
    obtain ⟨hbx, A1', c1', hm, hn, hA⟩ := hFN
    have HBZ := hide hbx
    have HTM := hide (HW3.out.mind hm hn hA)
    clear hbx hm hn hA
    have HNN := hide (show Near F W.heap.size W W4 from (Near.of_below HNB.out).trans (HTM.out.2.mono HNB.out.size))
    have HSZ := hide (Nat.le_trans HNB.out.size HTM.out.2.size)
    have HFF := hide (show ∀ j, (F j ∨ (W3.heap.size ≤ j ∧ j < W4.heap.size)) → F j ∨ W.heap.size ≤ j from fun j e => by
      rcases e with e | e
      · exact Or.inl e
      · right; have := HNB.out.size; omega)
    by_cases h5 : Se = 0
    case pos =>
      subst h5
      have HC := hide (show (HandS.mk 0 (St1, St2) ⟨Sa, Sb, Sc, Sd⟩ Sk).come T.S = comeS T.S ⟨St1, St2, ⟨Sa, Sb, Sc, Sd⟩⟩ from if_pos rfl)
      obtain ⟨z0, z1, z2, z3, z4, z5⟩ := (cells6 HBZ.out).1
      go_wp2_with fail
      refine (taleComes_walk HTM.out.1 ⟨St1, St2, ⟨Sa, Sb, Sc, Sd⟩⟩ (by show T.S.length < 1000000; omega)).mono ?_
      rintro e W6 ⟨rfl, A', c', F', hw, hn, hF⟩
      have HW6 := hide hw
      have HN6 := hide hn
      have HF6 := hide hF
      clear hw hn hF z0 z1 z2 z3 z4 z5
      go_wp2
      go_ret
      refine ⟨ret_i64 (by rw [HS.out]), A1', c1', A', c', F', by rw [HS.out, HC.out]; exact HW6.out, HNN.out.trans ?_, fun j e => ?_⟩
      · have q := HN6.out.mono HSZ.out
        exact ⟨q.os, q.tape, q.output, q.size, fun k hk hp => q.block k hk (fun e => by
          rcases e with e | e
          · exact hp e
          · have := HNB.out.size; omega)⟩
      · rcases HF6.out j e with e | e
        · exact HFF.out j e
        · right; have := HSZ.out; omega
    have e5 : (Se == 0) = false := by simpa using h5
    have HC := hide (show (HandS.mk Se (St1, St2) ⟨Sa, Sb, Sc, Sd⟩ Sk).come T.S = T.S from if_neg h5)
    go_wp2
    go_ret
    exact ⟨ret_i64 (by rw [HS.out]), A1', c1', A, c, _, by rw [HS.out, HC.out]; exact HTM.out.1, HNN.out, HFF.out⟩
  have e2 : (x.kind == 2) = false := by simpa using h2
  have H2 := hide h2
  clear h2
  by_cases h3 : x.kind = 3
  case pos =>
    have e3 : (x.kind == 3) = true := by simpa using h3
    have H3 := hide h3
    clear h3
    obtain ⟨R, hR⟩ : ∃ R, forgetM ds T.L x.dev x.p x.ch = R := ⟨_, rfl⟩
    have HS := hide (show doT ds ls T x = (R.1, ⟨R.2, T.S⟩) from by rw [doT, if_neg H1.out, if_neg H2.out, if_pos H3.out, hR])
    have HFO := hide (fun (w' : World) (hb : Below W.heap.size W w') => mindForget_as g n A1 c1 T.L x R.1 R.2 hdn HX.out hL (by rw [HD.out.1, hR]) (by rw [HD.out.1, hR]) w' (HW.out.below hb).m)
    go_enter Try.func37, Try.ntmps37
    go_wp2_with fail
    generalize hG : World.alloc W _ = W1
    have HX1 := hide (boxes1 hG).1
    clear hG
    obtain ⟨b0, b1, b2, b3, b4, b5, b6, b7⟩ := cells8 (HX1.out.get 0 rfl)
    have kt := (HW.out.below HX1.out.bl).t0
    go_still_tail 10, (by kernel_rfl)
    clear b0 b1 b2 b3 b4 b5 b6 b7 kt
    go_wp2_with fail
    refine (HFO.out _ HX1.out.bl.drew).mono ?_
    rintro e W4 ⟨rfl, A1', c1', hm, hn, hA⟩
    have HTM := hide ((HW.out.below HX1.out.bl.drew).mind hm hn hA)
    have HNN := hide (show Near F W.heap.size W W4 from (Near.of_below HX1.out.bl.drew).trans (HTM.out.2.mono HX1.out.bl.drew.size))
    have HSZ := hide HX1.out.bl.drew.size
    clear hm hn hA HFO
    go_wp2
    go_ret
    refine ⟨ret_i64 (by rw [HS.out]), A1', c1', A, c, _, by rw [HS.out]; exact HTM.out.1, HNN.out, fun j e => ?_⟩
    rcases e with e | e
    · exact Or.inl e
    · right; have := HSZ.out; omega
  have e3 : (x.kind == 3) = false := by simpa using h3
  have H3 := hide h3
  clear h3
  have HS := hide (show doT ds ls T x = (1, ⟨T.L, T.S⟩) from by rw [doT, if_neg H1.out, if_neg H2.out, if_neg H3.out])
  go_enter Try.func37, Try.ntmps37
  go_wp2
  go_ret
  exact ⟨ret_i64 (by rw [HS.out]), A1, c1, A, c, F, by rw [HS.out]; exact HW.out.below (below_alloc W _), Near.of_below (below_alloc W _), fun j e => Or.inl e⟩
end Go.Proofs.Ythaiffjalgionaa
