/- wirelaw.PacketSays, wirekeep.PacketBack: the walks. -/
import Derived.Test.YtohbafigjpoijaaDoorSt6
import Derived.Test.YtohbafigjpoijaaDoorSt7
import Derived.Test.YtohbafigjpoijaaDoorSt8
set_option linter.unusedVariables false
set_option linter.unusedSimpArgs false
set_option maxRecDepth 100000
set_option maxHeartbeats 4000000
namespace Go.Proofs.YtohbafigjpoijaaDoor
open Go.RowKit

/-- Boxes beside a world. -/
structure Kp (W w : World) (L : List (Nat × Array Value)) : Prop where
  bl : Below W.heap.size W w
  bx : ∀ x ∈ L, ∃ t, w.heap[x.1]? = some (.cells x.2 t)
theorem Kp.nil (W : World) : Kp W W [] := ⟨Below.refl _ _, by simp⟩
theorem Kp.below {W w w' : World} {L : List (Nat × Array Value)} (h : Kp W w L) (hb : Below w.heap.size w w') : Kp W w' L :=
  ⟨h.bl.trans (hb.mono h.bl.size), fun x hx => (h.bx x hx).imp fun t e => (hb.block x.1 (heap_lt e)).trans e⟩
theorem Kp.al {W w : World} {L : List (Nat × Array Value)} (h : Kp W w L) (vs : Array Value) (t : TypeId) : Kp W (w.alloc (.cells vs t)) ((w.heap.size, vs) :: L) := by
  have h1 := h.below ((Below.refl w.heap.size w).alloc (Nat.le_refl _) (.cells vs t))
  refine ⟨h1.bl, fun x hx => ?_⟩
  rcases List.mem_cons.1 hx with rfl | hx
  · exact ⟨t, heap_alloc_new w _⟩
  · exact h1.bx x hx
theorem Kp.c4 {W w : World} {L : List (Nat × Array Value)} (h : Kp W w L) (i : Nat) {N : Nat} {x0 x1 x2 x3 : Value} (hx : L[i]? = some (N, #[x0, x1, x2, x3])) :
    N < w.heap.size ∧ w.cell? ⟨N, 0, none⟩ = some x0 ∧ w.cell? ⟨N, 1, none⟩ = some x1 ∧ w.cell? ⟨N, 2, none⟩ = some x2 ∧ w.cell? ⟨N, 3, none⟩ = some x3 ∧
    w.frozen? ⟨N, 0, none⟩ = false ∧ w.frozen? ⟨N, 1, none⟩ = false ∧ w.frozen? ⟨N, 2, none⟩ = false ∧ w.frozen? ⟨N, 3, none⟩ = false := by
  obtain ⟨t, e⟩ := h.bx _ (List.mem_of_getElem? hx)
  exact ⟨heap_lt e, cells4f e⟩
theorem set_block {w : World} {N j : Nat} {vs : Array Value} {t : TypeId} (v : Value) (h : w.heap[N]? = some (.cells vs t)) : (w.setCell ⟨N, j, none⟩ v).heap[N]? = some (.cells (vs.setIfInBounds j v) t) := heap_setCell_same w N j vs t v h
theorem Kp.set4 {W w : World} {L : List (Nat × Array Value)} {N : Nat} {x0 x1 x2 x3 : Value} (h : Kp W w ((N, #[x0, x1, x2, x3]) :: L)) (hne : ∀ x ∈ L, x.1 ≠ N) (hN : W.heap.size ≤ N) (y0 y1 y2 y3 : Value) :
    Kp W ((((w.setCell ⟨N, 0, none⟩ y0).setCell ⟨N, 1, none⟩ y1).setCell ⟨N, 2, none⟩ y2).setCell ⟨N, 3, none⟩ y3) ((N, #[y0, y1, y2, y3]) :: L) := by
  refine ⟨(((h.bl.setCell hN _).setCell hN _).setCell hN _).setCell hN _, fun x hx => ?_⟩
  rcases List.mem_cons.1 hx with rfl | hx
  · obtain ⟨t, e⟩ := h.bx _ (List.mem_cons_self ..)
    exact ⟨t, set_block y3 (set_block y2 (set_block y1 (set_block y0 e)))⟩
  · obtain ⟨t, e⟩ := h.bx x (List.mem_cons_of_mem _ hx)
    refine ⟨t, ?_⟩
    have := hne x hx
    rw [heap_setCell_other _ _ _ _ (by simpa using this), heap_setCell_other _ _ _ _ (by simpa using this), heap_setCell_other _ _ _ _ (by simpa using this), heap_setCell_other _ _ _ _ (by simpa using this)]
    exact e

theorem Kp.sub {W w : World} {L L' : List (Nat × Array Value)} (h : Kp W w L) (hs : ∀ x ∈ L', x ∈ L) : Kp W w L' := ⟨h.bl, fun x hx => h.bx x (hs x hx)⟩

theorem packetSays_walk (p : P4) (code : Int) (l : List UInt8) (W : World) (hs : l.length ≤ 1048576) (hm : MaxAt W) (hpo : p.ok) (hco : i64ok code) :
    Calls Tryd.prog 3 #[.agg #[.int .i64 p.src, .int .i64 p.dst, .int .i64 p.sport, .int .i64 p.dport], .int .i64 code, .string ⟨l.toArray⟩] W fun e W' => e = .returned (.bool true) ∧ Below W.heap.size W W' := by
  have HR := hide (fun w => right_walk p w)
  have HCK := hide (fun w => packetCheck_walk p w)
  have HCO := hide (fun w => code_walk p w)
  have HPR := hide (fun w => print_walk p w)
  have HFL := hide (fun w => flipS_walk p.src p.dst p.sport p.dport w)
  have HBA := hide (fun w => backS_walk p.src p.dst p.sport p.dport w)
  have HPA := hide (fun (w : World) (hb : Below W.heap.size W w) => parse_walk l w hs (hm.below hb))
  have HRP := hide (fun (w : World) => readPacket_walk l w hs)
  obtain ⟨⟨d0, d1, d2, d3⟩, j, hj⟩ : ∃ d j, parseF l = (d, j) := ⟨_, _, rfl⟩
  have hV : parseV l = .tuple #[.agg #[.int .i64 d0, .int .i64 d1, .int .i64 d2, .int .i64 d3], .int .i64 j] := by simp only [parseV, hj]
  rw [hV] at HPA HRP
  clear hV hj hm
  obtain ⟨R, hRR⟩ : ∃ R, rightB p = R := ⟨_, rfl⟩
  have HRW := hide (fun (w : World) (h : R = true) => show ∃ N T, Calls Tryd.prog 11 #[.agg #[.int .i64 p.src, .int .i64 p.dst, .int .i64 p.sport, .int .i64 p.dport]] w (fun e W' => e = .returned (.int .i64 N) ∧ Below w.heap.size w W') ∧ Calls Tryd.prog 12 #[.agg #[.int .i64 p.src, .int .i64 p.dst, .int .i64 p.sport, .int .i64 p.dport]] w (fun e W' => e = .returned (.string ⟨List.toArray T⟩) ∧ Below w.heap.size w W') ∧ (codeP p : Int) = N ∧ printF p = T from by
    rw [← hRR] at h
    have hpf : printF p = packT p := by rw [printF, if_pos h]
    obtain ⟨a, b, c, d, rfl, h1, h2, h3, h4⟩ := right_nats h
    refine ⟨_, _, refCode_walk a b c d h1 h2 h3 h4 w, packetText_walk a b c d (by omega) (by omega) (by omega) (by omega) w, ?_, ?_⟩
    · simp [codeP]
    · rw [hpf]; simp [packT])
  obtain ⟨TT, hTT⟩ : ∃ T, printF p = T := ⟨_, rfl⟩
  obtain ⟨CC, hCC⟩ : ∃ C, (codeP p : Int) = C := ⟨_, rfl⟩
  have hT0 : R = false → TT = [] := fun h => by rw [← hTT, printF, hRR, h]; rfl
  simp only [hRR, hTT, hCC, strV] at HR HCK HCO HPR HRW
  have HT0 := hide hT0
  clear hT0 hTT hCC hRR
  have HOF : ∃ q0 q1 q2 q3 f, Hid (∀ w, Calls Tryd.prog 15 #[.int .i64 code] w fun e W' => e = .returned (.tuple #[.agg #[.int .i64 q0, .int .i64 q1, .int .i64 q2, .int .i64 q3], .int .i64 f]) ∧ Below w.heap.size w W') ∧
      ((¬ (0 ≤ code ∧ code < 16384) ∧ q0 = 0 ∧ q1 = 0 ∧ q2 = 0 ∧ q3 = 0 ∧ f = 1) ∨ ((0 ≤ code ∧ code < 16384) ∧ f = 0 ∧ Hid (∀ w, Calls Tryd.prog 13 #[.int .i64 code] w fun e W' => e = .returned (.agg #[.int .i64 q0, .int .i64 q1, .int .i64 q2, .int .i64 q3]) ∧ Below w.heap.size w W'))) := by
    by_cases h : 0 ≤ code ∧ code < 16384
    · obtain ⟨c, rfl⟩ : ∃ c : Nat, code = c := ⟨code.toNat, by omega⟩
      exact ⟨_, _, _, _, 0, hide (fun w => of_walk w c (by omega)), .inr ⟨h, rfl, hide (fun w => packet_walk w c (by omega))⟩⟩
    · exact ⟨0, 0, 0, 0, 1, hide (fun w => of_bad w code h), .inl ⟨h, rfl, rfl, rfl, rfl, rfl⟩⟩
  obtain ⟨q0, q1, q2, q3, f, HOF, hof⟩ := HOF
  obtain ⟨a, b, c, d⟩ := p
  simp only at *
  go_enter Tryd.func3, Tryd.ntmps3
  go_wp2_with fail
  have HK0 := hide ((Kp.nil W).al #[.int .i64 a, .int .i64 b, .int .i64 c, .int .i64 d] 23)
  generalize W.alloc (.cells #[.int .i64 a, .int .i64 b, .int .i64 c, .int .i64 d] 23) = w0 at *
  refine (HR.out _).mono ?_
  rintro e w1 ⟨rfl, hb⟩
  have HK1 := hide (HK0.out.below hb)
  clear hb HK0 HR
  cases R with
  | true =>
    simp only [if_true] at HCK HCO HPR
    obtain ⟨p0, p1, p2, p3, p4⟩ := HK1.out.c4 0 rfl
    go_wp2
    refine wp_region_abs (by kernel_rfl) (by kernel_rfl) ?_
    intro T hT gt hg1 hgi
    have HGT := hide hg1
    have HGI := hide hgi
    clear hg1 hgi
    have k0 : ∀ t, (gt t).cell? ⟨W.heap.size, 0, none⟩ = some (.int .i64 a) := fun t => ((HK1.out.below (HGT.out t)).c4 0 rfl).2.1
    have k1 : ∀ t, (gt t).cell? ⟨W.heap.size, 1, none⟩ = some (.int .i64 b) := fun t => ((HK1.out.below (HGT.out t)).c4 0 rfl).2.2.1
    have k2 : ∀ t, (gt t).cell? ⟨W.heap.size, 2, none⟩ = some (.int .i64 c) := fun t => ((HK1.out.below (HGT.out t)).c4 0 rfl).2.2.2.1
    have k3 : ∀ t, (gt t).cell? ⟨W.heap.size, 3, none⟩ = some (.int .i64 d) := fun t => ((HK1.out.below (HGT.out t)).c4 0 rfl).2.2.2.2.1
    have HN := hide (fun w => show Calls Tryd.prog 11 #[.agg #[.int .i64 a, .int .i64 b, .int .i64 c, .int .i64 d]] w (fun e W' => e = .returned (.int .i64 CC) ∧ Below w.heap.size w W') from by
      obtain ⟨N, T, h1, _, rfl, _⟩ := HRW.out w (by trivial)
      exact h1)
    have HTX := hide (fun w => show Calls Tryd.prog 12 #[.agg #[.int .i64 a, .int .i64 b, .int .i64 c, .int .i64 d]] w (fun e W' => e = .returned (.string ⟨TT.toArray⟩) ∧ Below w.heap.size w W') from by
      obtain ⟨N, T, _, h1, _, rfl⟩ := HRW.out w (by trivial)
      exact h1)
    clear HRW
    repeat (go_big_quiet_step ((first | (go_at_call 11; exact inAbs HGT.out HGI.out (HN.out _)) | (go_at_call 12; exact inAbs HGT.out HGI.out (HTX.out _)))))
    refine wpQuiet_nil ?_
    intro _ hw'
    obtain ⟨t, rfl⟩ := hw'
    have HK3 := hide (HK1.out.below (HGT.out t))
    generalize gt t = w3 at *
    clear HGT HGI k0 k1 k2 k3 HK1 HN HTX
    have HQ1 := hide (show W.heap.size < w3.heap.size from (HK3.out.c4 0 rfl).1)
    rcases hof with ⟨hno, rfl, rfl, rfl, rfl, rfl⟩ | ⟨hyes, rfl, HPK⟩
    · have hcc : decide (0 ≤ code) = false ∨ (0 ≤ code ∧ decide (code < 16384) = false) := by
        by_cases h : 0 ≤ code
        · right; exact ⟨h, by simp; omega⟩
        · left; simp; omega
      clear hno
      have HK5 := hide (HK3.out.al #[.int .i64 0, .int .i64 0, .int .i64 0, .int .i64 0] 23)
      obtain ⟨_, u0, u1, u2, u3, _⟩ := HK5.out.c4 1 rfl
      clear HK3
      rcases hcc with g1 | ⟨g0, g1⟩
      all_goals
        go_wp2_with fail
        generalize hw5 : w3.alloc (.cells #[.int .i64 0, .int .i64 0, .int .i64 0, .int .i64 0] 23) = w5 at *
        clear hw5
        generalize w3.heap.size = Nq at *
        refine (HCO.out _).mono ?_
        rintro e w6 ⟨rfl, hb⟩
        have HK6 := hide (HK5.out.below hb)
        clear hb HK5
        clear u0 u1 u2 u3
        go_wp2_with fail
        refine (HOF.out _).mono ?_
        rintro e w7 ⟨rfl, hb⟩
        have HK7 := hide (HK6.out.below hb)
        clear hb HK6
        have HK8 := hide (HK7.out.al #[.int .i64 0, .int .i64 0, .int .i64 0, .int .i64 0] 23)
        obtain ⟨_, u0, u1, u2, u3, _⟩ := HK8.out.c4 2 rfl
        clear HK7
        go_wp2_with fail
        generalize hw8 : w7.alloc (.cells #[.int .i64 0, .int .i64 0, .int .i64 0, .int .i64 0] 23) = w8 at *
        clear hw8
        generalize w7.heap.size = Nb at *
        refine (HPR.out _).mono ?_
        rintro e w9 ⟨rfl, hb⟩
        have HK9 := hide (HK8.out.below hb)
        clear hb HK8
        clear u0 u1 u2 u3
        go_wp2_with fail
        refine (HPA.out _ HK9.out.bl).mono ?_
        rintro e w10 ⟨rfl, hb⟩
        have HK10 := hide (HK9.out.below hb)
        clear hb HK9
        go_wp2_with fail
        have HK11 := hide (HK10.out.al #[.int .i64 d0, .int .i64 d1, .int .i64 d2, .int .i64 d3] 23)
        clear HK10
        generalize hw11 : w10.alloc (.cells #[.int .i64 d0, .int .i64 d1, .int .i64 d2, .int .i64 d3] 23) = w11 at *
        clear hw11
        generalize w10.heap.size = Nd at *
        refine (HRP.out _).mono ?_
        rintro e w12 ⟨rfl, hb⟩
        have HK12 := hide (HK11.out.below hb)
        clear hb HK11
        go_wp2_with fail
        have HK13 := hide (HK12.out.al #[.int .i64 d0, .int .i64 d1, .int .i64 d2, .int .i64 d3] 23)
        clear HK12
        generalize hw13 : w12.alloc (.cells #[.int .i64 d0, .int .i64 d1, .int .i64 d2, .int .i64 d3] 23) = w13 at *
        clear hw13
        generalize w12.heap.size = Nx at *
        refine wp_region_abs (by kernel_rfl) (by kernel_rfl) ?_
        intro T hT gt hg1 hgi
        have HGT := hide hg1
        have HGI := hide hgi
        clear hg1 hgi
        have HC := hide (fun t i N x0 x1 x2 x3 hx => (HK13.out.below (HGT.out t)).c4 i (N := N) (x0 := x0) (x1 := x1) (x2 := x2) (x3 := x3) hx)
        have kpa : ∀ t, (gt t).cell? ⟨W.heap.size, 0, none⟩ = some (.int .i64 a) := fun t => (HC.out t 4 _ _ _ _ _ rfl).2.1
        have kpb : ∀ t, (gt t).cell? ⟨W.heap.size, 1, none⟩ = some (.int .i64 b) := fun t => (HC.out t 4 _ _ _ _ _ rfl).2.2.1
        have kpc : ∀ t, (gt t).cell? ⟨W.heap.size, 2, none⟩ = some (.int .i64 c) := fun t => (HC.out t 4 _ _ _ _ _ rfl).2.2.2.1
        have kpd : ∀ t, (gt t).cell? ⟨W.heap.size, 3, none⟩ = some (.int .i64 d) := fun t => (HC.out t 4 _ _ _ _ _ rfl).2.2.2.2.1
        have kqa : ∀ t, (gt t).cell? ⟨Nq, 0, none⟩ = some (.int .i64 0) := fun t => (HC.out t 3 _ _ _ _ _ rfl).2.1
        have kqb : ∀ t, (gt t).cell? ⟨Nq, 1, none⟩ = some (.int .i64 0) := fun t => (HC.out t 3 _ _ _ _ _ rfl).2.2.1
        have kqc : ∀ t, (gt t).cell? ⟨Nq, 2, none⟩ = some (.int .i64 0) := fun t => (HC.out t 3 _ _ _ _ _ rfl).2.2.2.1
        have kqd : ∀ t, (gt t).cell? ⟨Nq, 3, none⟩ = some (.int .i64 0) := fun t => (HC.out t 3 _ _ _ _ _ rfl).2.2.2.2.1
        have kba : ∀ t, (gt t).cell? ⟨Nb, 0, none⟩ = some (.int .i64 0) := fun t => (HC.out t 2 _ _ _ _ _ rfl).2.1
        have kbb : ∀ t, (gt t).cell? ⟨Nb, 1, none⟩ = some (.int .i64 0) := fun t => (HC.out t 2 _ _ _ _ _ rfl).2.2.1
        have kbc : ∀ t, (gt t).cell? ⟨Nb, 2, none⟩ = some (.int .i64 0) := fun t => (HC.out t 2 _ _ _ _ _ rfl).2.2.2.1
        have kbd : ∀ t, (gt t).cell? ⟨Nb, 3, none⟩ = some (.int .i64 0) := fun t => (HC.out t 2 _ _ _ _ _ rfl).2.2.2.2.1
        have kda : ∀ t, (gt t).cell? ⟨Nd, 0, none⟩ = some (.int .i64 d0) := fun t => (HC.out t 1 _ _ _ _ _ rfl).2.1
        have kdb : ∀ t, (gt t).cell? ⟨Nd, 1, none⟩ = some (.int .i64 d1) := fun t => (HC.out t 1 _ _ _ _ _ rfl).2.2.1
        have kdc : ∀ t, (gt t).cell? ⟨Nd, 2, none⟩ = some (.int .i64 d2) := fun t => (HC.out t 1 _ _ _ _ _ rfl).2.2.2.1
        have kdd : ∀ t, (gt t).cell? ⟨Nd, 3, none⟩ = some (.int .i64 d3) := fun t => (HC.out t 1 _ _ _ _ _ rfl).2.2.2.2.1
        have kxa : ∀ t, (gt t).cell? ⟨Nx, 0, none⟩ = some (.int .i64 d0) := fun t => (HC.out t 0 _ _ _ _ _ rfl).2.1
        have kxb : ∀ t, (gt t).cell? ⟨Nx, 1, none⟩ = some (.int .i64 d1) := fun t => (HC.out t 0 _ _ _ _ _ rfl).2.2.1
        have kxc : ∀ t, (gt t).cell? ⟨Nx, 2, none⟩ = some (.int .i64 d2) := fun t => (HC.out t 0 _ _ _ _ _ rfl).2.2.2.1
        have kxd : ∀ t, (gt t).cell? ⟨Nx, 3, none⟩ = some (.int .i64 d3) := fun t => (HC.out t 0 _ _ _ _ _ rfl).2.2.2.2.1
        clear HC
        repeat (go_big_quiet_step ((first | (go_at_call 19; exact inAbs HGT.out HGI.out (HCK.out _)) | (go_at_call 20; exact inAbs HGT.out HGI.out (HFL.out _)) | (go_at_call 21; exact inAbs HGT.out HGI.out (HBA.out _)))))
        refine wpQuiet_nil ?_
        intro _ hw'
        obtain ⟨t, rfl⟩ := hw'
        have HBE := hide (HK13.out.below (HGT.out t)).bl
        go_wp2
        go_ret
        exact ⟨rfl, HBE.out⟩
    · obtain ⟨g0, g1⟩ := hyes
      have HK4 := hide (HK3.out.al #[.int .i64 0, .int .i64 0, .int .i64 0, .int .i64 0] 23)
      have HZ := hide (show W.heap.size ≤ w3.heap.size from HK3.out.bl.size)
      clear HK3
      go_wp2_with fail
      generalize hw5 : w3.alloc (.cells #[.int .i64 0, .int .i64 0, .int .i64 0, .int .i64 0] 23) = w4 at *
      clear hw5
      generalize w3.heap.size = Nq at *
      refine (HPK.out _).mono ?_
      rintro e wq ⟨rfl, hb⟩
      have HK4' := hide (HK4.out.below hb)
      obtain ⟨_, z0, z1, z2, z3, z4, z5, z6, z7⟩ := HK4'.out.c4 0 rfl
      have HK5 := hide (HK4'.out.set4 (by intro x hx; rw [List.mem_singleton.1 hx]; exact Nat.ne_of_lt HQ1.out) HZ.out (.int .i64 q0) (.int .i64 q1) (.int .i64 q2) (.int .i64 q3))
      obtain ⟨_, u0, u1, u2, u3, _⟩ := HK5.out.c4 1 rfl
      clear hb HK4 HK4' HPK
      go_wp2_with fail
      generalize hw5 : World.setCell _ _ _ = w5 at *
      clear hw5 z0 z1 z2 z3 z4 z5 z6 z7
      refine (HCO.out _).mono ?_
      rintro e w6 ⟨rfl, hb⟩
      have HK6 := hide (HK5.out.below hb)
      clear hb HK5
      clear u0 u1 u2 u3
      go_wp2_with fail
      refine (HOF.out _).mono ?_
      rintro e w7 ⟨rfl, hb⟩
      have HK7 := hide (HK6.out.below hb)
      clear hb HK6
      have HK8 := hide (HK7.out.al #[.int .i64 q0, .int .i64 q1, .int .i64 q2, .int .i64 q3] 23)
      obtain ⟨_, u0, u1, u2, u3, _⟩ := HK8.out.c4 2 rfl
      clear HK7
      go_wp2_with fail
      generalize hw8 : w7.alloc (.cells #[.int .i64 q0, .int .i64 q1, .int .i64 q2, .int .i64 q3] 23) = w8 at *
      clear hw8
      generalize w7.heap.size = Nb at *
      refine (HPR.out _).mono ?_
      rintro e w9 ⟨rfl, hb⟩
      have HK9 := hide (HK8.out.below hb)
      clear hb HK8
      clear u0 u1 u2 u3
      go_wp2_with fail
      refine (HPA.out _ HK9.out.bl).mono ?_
      rintro e w10 ⟨rfl, hb⟩
      have HK10 := hide (HK9.out.below hb)
      clear hb HK9
      go_wp2_with fail
      have HK11 := hide (HK10.out.al #[.int .i64 d0, .int .i64 d1, .int .i64 d2, .int .i64 d3] 23)
      clear HK10
      generalize hw11 : w10.alloc (.cells #[.int .i64 d0, .int .i64 d1, .int .i64 d2, .int .i64 d3] 23) = w11 at *
      clear hw11
      generalize w10.heap.size = Nd at *
      refine (HRP.out _).mono ?_
      rintro e w12 ⟨rfl, hb⟩
      have HK12 := hide (HK11.out.below hb)
      clear hb HK11
      go_wp2_with fail
      have HK13 := hide (HK12.out.al #[.int .i64 d0, .int .i64 d1, .int .i64 d2, .int .i64 d3] 23)
      clear HK12
      generalize hw13 : w12.alloc (.cells #[.int .i64 d0, .int .i64 d1, .int .i64 d2, .int .i64 d3] 23) = w13 at *
      clear hw13
      generalize w12.heap.size = Nx at *
      refine wp_region_abs (by kernel_rfl) (by kernel_rfl) ?_
      intro T hT gt hg1 hgi
      have HGT := hide hg1
      have HGI := hide hgi
      clear hg1 hgi
      have HC := hide (fun t i N x0 x1 x2 x3 hx => (HK13.out.below (HGT.out t)).c4 i (N := N) (x0 := x0) (x1 := x1) (x2 := x2) (x3 := x3) hx)
      have kpa : ∀ t, (gt t).cell? ⟨W.heap.size, 0, none⟩ = some (.int .i64 a) := fun t => (HC.out t 4 _ _ _ _ _ rfl).2.1
      have kpb : ∀ t, (gt t).cell? ⟨W.heap.size, 1, none⟩ = some (.int .i64 b) := fun t => (HC.out t 4 _ _ _ _ _ rfl).2.2.1
      have kpc : ∀ t, (gt t).cell? ⟨W.heap.size, 2, none⟩ = some (.int .i64 c) := fun t => (HC.out t 4 _ _ _ _ _ rfl).2.2.2.1
      have kpd : ∀ t, (gt t).cell? ⟨W.heap.size, 3, none⟩ = some (.int .i64 d) := fun t => (HC.out t 4 _ _ _ _ _ rfl).2.2.2.2.1
      have kqa : ∀ t, (gt t).cell? ⟨Nq, 0, none⟩ = some (.int .i64 q0) := fun t => (HC.out t 3 _ _ _ _ _ rfl).2.1
      have kqb : ∀ t, (gt t).cell? ⟨Nq, 1, none⟩ = some (.int .i64 q1) := fun t => (HC.out t 3 _ _ _ _ _ rfl).2.2.1
      have kqc : ∀ t, (gt t).cell? ⟨Nq, 2, none⟩ = some (.int .i64 q2) := fun t => (HC.out t 3 _ _ _ _ _ rfl).2.2.2.1
      have kqd : ∀ t, (gt t).cell? ⟨Nq, 3, none⟩ = some (.int .i64 q3) := fun t => (HC.out t 3 _ _ _ _ _ rfl).2.2.2.2.1
      have kba : ∀ t, (gt t).cell? ⟨Nb, 0, none⟩ = some (.int .i64 q0) := fun t => (HC.out t 2 _ _ _ _ _ rfl).2.1
      have kbb : ∀ t, (gt t).cell? ⟨Nb, 1, none⟩ = some (.int .i64 q1) := fun t => (HC.out t 2 _ _ _ _ _ rfl).2.2.1
      have kbc : ∀ t, (gt t).cell? ⟨Nb, 2, none⟩ = some (.int .i64 q2) := fun t => (HC.out t 2 _ _ _ _ _ rfl).2.2.2.1
      have kbd : ∀ t, (gt t).cell? ⟨Nb, 3, none⟩ = some (.int .i64 q3) := fun t => (HC.out t 2 _ _ _ _ _ rfl).2.2.2.2.1
      have kda : ∀ t, (gt t).cell? ⟨Nd, 0, none⟩ = some (.int .i64 d0) := fun t => (HC.out t 1 _ _ _ _ _ rfl).2.1
      have kdb : ∀ t, (gt t).cell? ⟨Nd, 1, none⟩ = some (.int .i64 d1) := fun t => (HC.out t 1 _ _ _ _ _ rfl).2.2.1
      have kdc : ∀ t, (gt t).cell? ⟨Nd, 2, none⟩ = some (.int .i64 d2) := fun t => (HC.out t 1 _ _ _ _ _ rfl).2.2.2.1
      have kdd : ∀ t, (gt t).cell? ⟨Nd, 3, none⟩ = some (.int .i64 d3) := fun t => (HC.out t 1 _ _ _ _ _ rfl).2.2.2.2.1
      have kxa : ∀ t, (gt t).cell? ⟨Nx, 0, none⟩ = some (.int .i64 d0) := fun t => (HC.out t 0 _ _ _ _ _ rfl).2.1
      have kxb : ∀ t, (gt t).cell? ⟨Nx, 1, none⟩ = some (.int .i64 d1) := fun t => (HC.out t 0 _ _ _ _ _ rfl).2.2.1
      have kxc : ∀ t, (gt t).cell? ⟨Nx, 2, none⟩ = some (.int .i64 d2) := fun t => (HC.out t 0 _ _ _ _ _ rfl).2.2.2.1
      have kxd : ∀ t, (gt t).cell? ⟨Nx, 3, none⟩ = some (.int .i64 d3) := fun t => (HC.out t 0 _ _ _ _ _ rfl).2.2.2.2.1
      clear HC
      repeat (go_big_quiet_step ((first | (go_at_call 19; exact inAbs HGT.out HGI.out (HCK.out _)) | (go_at_call 20; exact inAbs HGT.out HGI.out (HFL.out _)) | (go_at_call 21; exact inAbs HGT.out HGI.out (HBA.out _)))))
      refine wpQuiet_nil ?_
      intro _ hw'
      obtain ⟨t, rfl⟩ := hw'
      have HBE := hide (HK13.out.below (HGT.out t)).bl
      go_wp2
      go_ret
      exact ⟨rfl, HBE.out⟩
  | false =>
    simp only [Bool.false_eq_true, if_false] at HCK HCO HPR
    have hT := HT0.out rfl
    subst hT
    have HK3 := HK1
    clear HK1 HRW HT0
    generalize w1 = w3 at *
    have HQ1 := hide (show W.heap.size < w3.heap.size from (HK3.out.c4 0 rfl).1)
    rcases hof with ⟨hno, rfl, rfl, rfl, rfl, rfl⟩ | ⟨hyes, rfl, HPK⟩
    · have hcc : decide (0 ≤ code) = false ∨ (0 ≤ code ∧ decide (code < 16384) = false) := by
        by_cases h : 0 ≤ code
        · right; exact ⟨h, by simp; omega⟩
        · left; simp; omega
      clear hno
      have HK5 := hide (HK3.out.al #[.int .i64 0, .int .i64 0, .int .i64 0, .int .i64 0] 23)
      obtain ⟨_, u0, u1, u2, u3, _⟩ := HK5.out.c4 1 rfl
      clear HK3
      rcases hcc with g1 | ⟨g0, g1⟩
      all_goals
        go_wp2_with fail
        generalize hw5 : w3.alloc (.cells #[.int .i64 0, .int .i64 0, .int .i64 0, .int .i64 0] 23) = w5 at *
        clear hw5
        generalize w3.heap.size = Nq at *
        refine (HCO.out _).mono ?_
        rintro e w6 ⟨rfl, hb⟩
        have HK6 := hide (HK5.out.below hb)
        clear hb HK5
        clear u0 u1 u2 u3
        go_wp2_with fail
        refine (HOF.out _).mono ?_
        rintro e w7 ⟨rfl, hb⟩
        have HK7 := hide (HK6.out.below hb)
        clear hb HK6
        have HK8 := hide (HK7.out.al #[.int .i64 0, .int .i64 0, .int .i64 0, .int .i64 0] 23)
        obtain ⟨_, u0, u1, u2, u3, _⟩ := HK8.out.c4 2 rfl
        clear HK7
        go_wp2_with fail
        generalize hw8 : w7.alloc (.cells #[.int .i64 0, .int .i64 0, .int .i64 0, .int .i64 0] 23) = w8 at *
        clear hw8
        generalize w7.heap.size = Nb at *
        refine (HPR.out _).mono ?_
        rintro e w9 ⟨rfl, hb⟩
        have HK9 := hide (HK8.out.below hb)
        clear hb HK8
        clear u0 u1 u2 u3
        go_wp2_with fail
        refine (HPA.out _ HK9.out.bl).mono ?_
        rintro e w10 ⟨rfl, hb⟩
        have HK10 := hide (HK9.out.below hb)
        clear hb HK9
        go_wp2_with fail
        have HK11 := hide (HK10.out.al #[.int .i64 d0, .int .i64 d1, .int .i64 d2, .int .i64 d3] 23)
        clear HK10
        generalize hw11 : w10.alloc (.cells #[.int .i64 d0, .int .i64 d1, .int .i64 d2, .int .i64 d3] 23) = w11 at *
        clear hw11
        generalize w10.heap.size = Nd at *
        refine (HRP.out _).mono ?_
        rintro e w12 ⟨rfl, hb⟩
        have HK12 := hide (HK11.out.below hb)
        clear hb HK11
        go_wp2_with fail
        have HK13 := hide (HK12.out.al #[.int .i64 d0, .int .i64 d1, .int .i64 d2, .int .i64 d3] 23)
        clear HK12
        generalize hw13 : w12.alloc (.cells #[.int .i64 d0, .int .i64 d1, .int .i64 d2, .int .i64 d3] 23) = w13 at *
        clear hw13
        generalize w12.heap.size = Nx at *
        refine wp_region_abs (by kernel_rfl) (by kernel_rfl) ?_
        intro T hT gt hg1 hgi
        have HGT := hide hg1
        have HGI := hide hgi
        clear hg1 hgi
        have HC := hide (fun t i N x0 x1 x2 x3 hx => (HK13.out.below (HGT.out t)).c4 i (N := N) (x0 := x0) (x1 := x1) (x2 := x2) (x3 := x3) hx)
        have kpa : ∀ t, (gt t).cell? ⟨W.heap.size, 0, none⟩ = some (.int .i64 a) := fun t => (HC.out t 4 _ _ _ _ _ rfl).2.1
        have kpb : ∀ t, (gt t).cell? ⟨W.heap.size, 1, none⟩ = some (.int .i64 b) := fun t => (HC.out t 4 _ _ _ _ _ rfl).2.2.1
        have kpc : ∀ t, (gt t).cell? ⟨W.heap.size, 2, none⟩ = some (.int .i64 c) := fun t => (HC.out t 4 _ _ _ _ _ rfl).2.2.2.1
        have kpd : ∀ t, (gt t).cell? ⟨W.heap.size, 3, none⟩ = some (.int .i64 d) := fun t => (HC.out t 4 _ _ _ _ _ rfl).2.2.2.2.1
        have kqa : ∀ t, (gt t).cell? ⟨Nq, 0, none⟩ = some (.int .i64 0) := fun t => (HC.out t 3 _ _ _ _ _ rfl).2.1
        have kqb : ∀ t, (gt t).cell? ⟨Nq, 1, none⟩ = some (.int .i64 0) := fun t => (HC.out t 3 _ _ _ _ _ rfl).2.2.1
        have kqc : ∀ t, (gt t).cell? ⟨Nq, 2, none⟩ = some (.int .i64 0) := fun t => (HC.out t 3 _ _ _ _ _ rfl).2.2.2.1
        have kqd : ∀ t, (gt t).cell? ⟨Nq, 3, none⟩ = some (.int .i64 0) := fun t => (HC.out t 3 _ _ _ _ _ rfl).2.2.2.2.1
        have kba : ∀ t, (gt t).cell? ⟨Nb, 0, none⟩ = some (.int .i64 0) := fun t => (HC.out t 2 _ _ _ _ _ rfl).2.1
        have kbb : ∀ t, (gt t).cell? ⟨Nb, 1, none⟩ = some (.int .i64 0) := fun t => (HC.out t 2 _ _ _ _ _ rfl).2.2.1
        have kbc : ∀ t, (gt t).cell? ⟨Nb, 2, none⟩ = some (.int .i64 0) := fun t => (HC.out t 2 _ _ _ _ _ rfl).2.2.2.1
        have kbd : ∀ t, (gt t).cell? ⟨Nb, 3, none⟩ = some (.int .i64 0) := fun t => (HC.out t 2 _ _ _ _ _ rfl).2.2.2.2.1
        have kda : ∀ t, (gt t).cell? ⟨Nd, 0, none⟩ = some (.int .i64 d0) := fun t => (HC.out t 1 _ _ _ _ _ rfl).2.1
        have kdb : ∀ t, (gt t).cell? ⟨Nd, 1, none⟩ = some (.int .i64 d1) := fun t => (HC.out t 1 _ _ _ _ _ rfl).2.2.1
        have kdc : ∀ t, (gt t).cell? ⟨Nd, 2, none⟩ = some (.int .i64 d2) := fun t => (HC.out t 1 _ _ _ _ _ rfl).2.2.2.1
        have kdd : ∀ t, (gt t).cell? ⟨Nd, 3, none⟩ = some (.int .i64 d3) := fun t => (HC.out t 1 _ _ _ _ _ rfl).2.2.2.2.1
        have kxa : ∀ t, (gt t).cell? ⟨Nx, 0, none⟩ = some (.int .i64 d0) := fun t => (HC.out t 0 _ _ _ _ _ rfl).2.1
        have kxb : ∀ t, (gt t).cell? ⟨Nx, 1, none⟩ = some (.int .i64 d1) := fun t => (HC.out t 0 _ _ _ _ _ rfl).2.2.1
        have kxc : ∀ t, (gt t).cell? ⟨Nx, 2, none⟩ = some (.int .i64 d2) := fun t => (HC.out t 0 _ _ _ _ _ rfl).2.2.2.1
        have kxd : ∀ t, (gt t).cell? ⟨Nx, 3, none⟩ = some (.int .i64 d3) := fun t => (HC.out t 0 _ _ _ _ _ rfl).2.2.2.2.1
        clear HC
        repeat (go_big_quiet_step ((first | (go_at_call 19; exact inAbs HGT.out HGI.out (HCK.out _)) | (go_at_call 20; exact inAbs HGT.out HGI.out (HFL.out _)) | (go_at_call 21; exact inAbs HGT.out HGI.out (HBA.out _)))))
        refine wpQuiet_nil ?_
        intro _ hw'
        obtain ⟨t, rfl⟩ := hw'
        have HBE := hide (HK13.out.below (HGT.out t)).bl
        go_wp2
        go_ret
        exact ⟨rfl, HBE.out⟩
    · obtain ⟨g0, g1⟩ := hyes
      have HK4 := hide (HK3.out.al #[.int .i64 0, .int .i64 0, .int .i64 0, .int .i64 0] 23)
      have HZ := hide (show W.heap.size ≤ w3.heap.size from HK3.out.bl.size)
      clear HK3
      go_wp2_with fail
      generalize hw5 : w3.alloc (.cells #[.int .i64 0, .int .i64 0, .int .i64 0, .int .i64 0] 23) = w4 at *
      clear hw5
      generalize w3.heap.size = Nq at *
      refine (HPK.out _).mono ?_
      rintro e wq ⟨rfl, hb⟩
      have HK4' := hide (HK4.out.below hb)
      obtain ⟨_, z0, z1, z2, z3, z4, z5, z6, z7⟩ := HK4'.out.c4 0 rfl
      have HK5 := hide (HK4'.out.set4 (by intro x hx; rw [List.mem_singleton.1 hx]; exact Nat.ne_of_lt HQ1.out) HZ.out (.int .i64 q0) (.int .i64 q1) (.int .i64 q2) (.int .i64 q3))
      obtain ⟨_, u0, u1, u2, u3, _⟩ := HK5.out.c4 1 rfl
      clear hb HK4 HK4' HPK
      go_wp2_with fail
      generalize hw5 : World.setCell _ _ _ = w5 at *
      clear hw5 z0 z1 z2 z3 z4 z5 z6 z7
      refine (HCO.out _).mono ?_
      rintro e w6 ⟨rfl, hb⟩
      have HK6 := hide (HK5.out.below hb)
      clear hb HK5
      clear u0 u1 u2 u3
      go_wp2_with fail
      refine (HOF.out _).mono ?_
      rintro e w7 ⟨rfl, hb⟩
      have HK7 := hide (HK6.out.below hb)
      clear hb HK6
      have HK8 := hide (HK7.out.al #[.int .i64 q0, .int .i64 q1, .int .i64 q2, .int .i64 q3] 23)
      obtain ⟨_, u0, u1, u2, u3, _⟩ := HK8.out.c4 2 rfl
      clear HK7
      go_wp2_with fail
      generalize hw8 : w7.alloc (.cells #[.int .i64 q0, .int .i64 q1, .int .i64 q2, .int .i64 q3] 23) = w8 at *
      clear hw8
      generalize w7.heap.size = Nb at *
      refine (HPR.out _).mono ?_
      rintro e w9 ⟨rfl, hb⟩
      have HK9 := hide (HK8.out.below hb)
      clear hb HK8
      clear u0 u1 u2 u3
      go_wp2_with fail
      refine (HPA.out _ HK9.out.bl).mono ?_
      rintro e w10 ⟨rfl, hb⟩
      have HK10 := hide (HK9.out.below hb)
      clear hb HK9
      go_wp2_with fail
      have HK11 := hide (HK10.out.al #[.int .i64 d0, .int .i64 d1, .int .i64 d2, .int .i64 d3] 23)
      clear HK10
      generalize hw11 : w10.alloc (.cells #[.int .i64 d0, .int .i64 d1, .int .i64 d2, .int .i64 d3] 23) = w11 at *
      clear hw11
      generalize w10.heap.size = Nd at *
      refine (HRP.out _).mono ?_
      rintro e w12 ⟨rfl, hb⟩
      have HK12 := hide (HK11.out.below hb)
      clear hb HK11
      go_wp2_with fail
      have HK13 := hide (HK12.out.al #[.int .i64 d0, .int .i64 d1, .int .i64 d2, .int .i64 d3] 23)
      clear HK12
      generalize hw13 : w12.alloc (.cells #[.int .i64 d0, .int .i64 d1, .int .i64 d2, .int .i64 d3] 23) = w13 at *
      clear hw13
      generalize w12.heap.size = Nx at *
      refine wp_region_abs (by kernel_rfl) (by kernel_rfl) ?_
      intro T hT gt hg1 hgi
      have HGT := hide hg1
      have HGI := hide hgi
      clear hg1 hgi
      have HC := hide (fun t i N x0 x1 x2 x3 hx => (HK13.out.below (HGT.out t)).c4 i (N := N) (x0 := x0) (x1 := x1) (x2 := x2) (x3 := x3) hx)
      have kpa : ∀ t, (gt t).cell? ⟨W.heap.size, 0, none⟩ = some (.int .i64 a) := fun t => (HC.out t 4 _ _ _ _ _ rfl).2.1
      have kpb : ∀ t, (gt t).cell? ⟨W.heap.size, 1, none⟩ = some (.int .i64 b) := fun t => (HC.out t 4 _ _ _ _ _ rfl).2.2.1
      have kpc : ∀ t, (gt t).cell? ⟨W.heap.size, 2, none⟩ = some (.int .i64 c) := fun t => (HC.out t 4 _ _ _ _ _ rfl).2.2.2.1
      have kpd : ∀ t, (gt t).cell? ⟨W.heap.size, 3, none⟩ = some (.int .i64 d) := fun t => (HC.out t 4 _ _ _ _ _ rfl).2.2.2.2.1
      have kqa : ∀ t, (gt t).cell? ⟨Nq, 0, none⟩ = some (.int .i64 q0) := fun t => (HC.out t 3 _ _ _ _ _ rfl).2.1
      have kqb : ∀ t, (gt t).cell? ⟨Nq, 1, none⟩ = some (.int .i64 q1) := fun t => (HC.out t 3 _ _ _ _ _ rfl).2.2.1
      have kqc : ∀ t, (gt t).cell? ⟨Nq, 2, none⟩ = some (.int .i64 q2) := fun t => (HC.out t 3 _ _ _ _ _ rfl).2.2.2.1
      have kqd : ∀ t, (gt t).cell? ⟨Nq, 3, none⟩ = some (.int .i64 q3) := fun t => (HC.out t 3 _ _ _ _ _ rfl).2.2.2.2.1
      have kba : ∀ t, (gt t).cell? ⟨Nb, 0, none⟩ = some (.int .i64 q0) := fun t => (HC.out t 2 _ _ _ _ _ rfl).2.1
      have kbb : ∀ t, (gt t).cell? ⟨Nb, 1, none⟩ = some (.int .i64 q1) := fun t => (HC.out t 2 _ _ _ _ _ rfl).2.2.1
      have kbc : ∀ t, (gt t).cell? ⟨Nb, 2, none⟩ = some (.int .i64 q2) := fun t => (HC.out t 2 _ _ _ _ _ rfl).2.2.2.1
      have kbd : ∀ t, (gt t).cell? ⟨Nb, 3, none⟩ = some (.int .i64 q3) := fun t => (HC.out t 2 _ _ _ _ _ rfl).2.2.2.2.1
      have kda : ∀ t, (gt t).cell? ⟨Nd, 0, none⟩ = some (.int .i64 d0) := fun t => (HC.out t 1 _ _ _ _ _ rfl).2.1
      have kdb : ∀ t, (gt t).cell? ⟨Nd, 1, none⟩ = some (.int .i64 d1) := fun t => (HC.out t 1 _ _ _ _ _ rfl).2.2.1
      have kdc : ∀ t, (gt t).cell? ⟨Nd, 2, none⟩ = some (.int .i64 d2) := fun t => (HC.out t 1 _ _ _ _ _ rfl).2.2.2.1
      have kdd : ∀ t, (gt t).cell? ⟨Nd, 3, none⟩ = some (.int .i64 d3) := fun t => (HC.out t 1 _ _ _ _ _ rfl).2.2.2.2.1
      have kxa : ∀ t, (gt t).cell? ⟨Nx, 0, none⟩ = some (.int .i64 d0) := fun t => (HC.out t 0 _ _ _ _ _ rfl).2.1
      have kxb : ∀ t, (gt t).cell? ⟨Nx, 1, none⟩ = some (.int .i64 d1) := fun t => (HC.out t 0 _ _ _ _ _ rfl).2.2.1
      have kxc : ∀ t, (gt t).cell? ⟨Nx, 2, none⟩ = some (.int .i64 d2) := fun t => (HC.out t 0 _ _ _ _ _ rfl).2.2.2.1
      have kxd : ∀ t, (gt t).cell? ⟨Nx, 3, none⟩ = some (.int .i64 d3) := fun t => (HC.out t 0 _ _ _ _ _ rfl).2.2.2.2.1
      clear HC
      repeat (go_big_quiet_step ((first | (go_at_call 19; exact inAbs HGT.out HGI.out (HCK.out _)) | (go_at_call 20; exact inAbs HGT.out HGI.out (HFL.out _)) | (go_at_call 21; exact inAbs HGT.out HGI.out (HBA.out _)))))
      refine wpQuiet_nil ?_
      intro _ hw'
      obtain ⟨t, rfl⟩ := hw'
      have HBE := hide (HK13.out.below (HGT.out t)).bl
      go_wp2
      go_ret
      exact ⟨rfl, HBE.out⟩
end Go.Proofs.YtohbafigjpoijaaDoor
