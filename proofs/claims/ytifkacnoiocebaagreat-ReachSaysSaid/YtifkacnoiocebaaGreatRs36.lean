/- A part of the proof: Sp19. -/
import Derived.Test.YtifkacnoiocebaaGreatRs35
set_option linter.unusedVariables false
set_option linter.unusedSimpArgs false
set_option maxRecDepth 100000
set_option maxHeartbeats 16000000
namespace Go.Proofs.YtifkacnoiocebaaGreat
open Go.Maps Go.RowKit Go.WideElems
theorem BestT.zero {T : Nat → Int} {m : M4} : BestT T m 0 none := fun c h => absurd h (Nat.not_lt_zero _)
theorem BestT.no {T : Nat → Int} {m : M4} {c : Nat} {o : Option Nat} (h : BestT T m c o) (hn : ¬ hitT T m c) : BestT T m (c + 1) o := by
  have e : ∀ c', c' < c + 1 → c' < c ∨ c' = c := fun c' h => by omega
  cases o with
  | none =>
    intro c' h' hh
    rcases e c' h' with hl | rfl
    · exact h c' hl hh
    · exact hn hh
  | some b =>
    obtain ⟨h1, h2, h3, h4⟩ := h
    exact ⟨by omega, h2, fun c' h' hh => (e c' h').elim (fun hl => h3 c' hl hh) (fun he => absurd (he ▸ hh) hn), h4⟩
theorem BestT.new {T : Nat → Int} {m : M4} {c : Nat} (h : BestT T m c none) (hn : hitT T m c) : BestT T m (c + 1) (some c) :=
  ⟨by omega, hn, fun c' h' hh => by
    rcases (by omega : c' < c ∨ c' = c) with hl | rfl
    · exact absurd hh (h c' hl)
    · exact Int.le_refl _, fun c' h' hh => absurd hh (h c' h')⟩
theorem BestT.less {T : Nat → Int} {m : M4} {c b : Nat} (h : BestT T m c (some b)) (hn : hitT T m c) (hl : T c < T b) : BestT T m (c + 1) (some c) := by
  obtain ⟨h1, h2, h3, h4⟩ := h
  refine ⟨by omega, hn, fun c' h' hh => ?_, fun c' h' hh => ?_⟩
  · rcases (by omega : c' < c ∨ c' = c) with hl' | rfl
    · have := h3 c' hl' hh; omega
    · exact Int.le_refl _
  · have := h3 c' h' hh; omega
theorem BestT.keep {T : Nat → Int} {m : M4} {c b : Nat} (h : BestT T m c (some b)) (hl : ¬ T c < T b) : BestT T m (c + 1) (some b) := by
  obtain ⟨h1, h2, h3, h4⟩ := h
  refine ⟨by omega, h2, fun c' h' hh => ?_, h4⟩
  rcases (by omega : c' < c ∨ c' = c) with hl' | rfl
  · exact h3 c' hl' hh
  · omega
def FirstQ (D : Prop) (T : Nat → Int) (m : M4) (W : World) (e : Ending) (W' : World) : Prop := ∃ o : Option Nat, e = .returned (firstV (o.map pk)) ∧ (D → BestT T m 16384 o) ∧ (¬ D → o = none) ∧ RowKit.Below W.heap.size W W'
def bestI : Option Nat → Int
  | none => -1
  | some b => b
theorem setsFirst_walk (W : World) (s mb : Nat) (rd : Int) (D : PoK → Prop) (blk : PoK → Nat) (T : PoK → Nat → Int) (M : PoK → Option Value) (h : SetsAt W s mb rd D blk T M) (x y : Int) (hx : i64ok x) (hy : i64ok y) (m : M4) (hm : m.ok) :
    Calls Tryz.prog 13 #[.pointer (some ⟨s, 0, none⟩), .agg #[.int .i64 x, .int .i64 y], .agg #[.int .u16 m.src, .int .u16 m.dst, .int .u8 m.sport, .int .u8 m.dport]] W (FirstQ (D (x, y)) (T (x, y)) m W) := by
  have HS := hide h
  have HM := hide hm
  clear h hm
  go_enter Tryz.func13, Tryz.ntmps13
  go_wp2_with fail
  generalize hG : World.alloc (World.alloc (World.alloc W _) _) _ = W1
  have hsz : W1.heap.size = W.heap.size + 3 := by rw [← hG]; simp
  have HQ := hide (boxesV (B := W1.heap.size) [(#[.int .i64 x, .int .i64 y], 27), (#[.int .u16 m.src, .int .u16 m.dst, .int .u8 m.sport, .int .u8 m.dport], 32), (#[.int .i64 0, .int .i64 0, .int .i64 0, .int .i64 0], 29)] W (W' := W1) (by rw [← hG]; exact RowKit.Below.refl _ _))
  clear hG
  have HB1 := hide (HQ.out.2 (by rw [hsz]; omega))
  have HSZ := hide hsz
  have c1 : W1.cell? ⟨s, 1, none⟩ = some (.map (some mb)) := (HS.out.up HB1.out).c1
  have z0 : W1.cell? ⟨W.heap.size, 0, none⟩ = some (.int .i64 x) := (HQ.out.1 0 _ _ rfl (by rw [HSZ.out]; omega)).1 0 _ rfl
  have z1 : W1.cell? ⟨W.heap.size, 1, none⟩ = some (.int .i64 y) := (HQ.out.1 0 _ _ rfl (by rw [HSZ.out]; omega)).1 1 _ rfl
  have HB2 := hide HB1.out.drew
  have HS2 := hide (HS.out.up HB2.out)
  have HX2 := hide (show BoxV W1.drew (W.heap.size + 1) #[.int .u16 m.src, .int .u16 m.dst, .int .u8 m.sport, .int .u8 m.dport] ∧ BoxV W1.drew (W.heap.size + 2) #[.int .i64 0, .int .i64 0, .int .i64 0, .int .i64 0] ∧ W.heap.size + 1 < W1.drew.heap.size ∧ W.heap.size + 2 < W1.drew.heap.size from
    ⟨(HQ.out.1 1 _ _ rfl (by rw [HSZ.out]; omega)).same rfl, (HQ.out.1 2 _ _ rfl (by rw [HSZ.out]; omega)).same rfl, by show _ < W1.heap.size; rw [HSZ.out]; omega, by show _ < W1.heap.size; rw [HSZ.out]; omega⟩)
  clear hsz HSZ HQ
  rcases HS2.out.look x y hx hy with ⟨hD, hlk⟩ | ⟨hD, hlk⟩
  · go_region
    clear hlk c1 z0 z1
    generalize World.drew W1 = W2 at *
    go_wp2_with fail
    go_loopw [8, 10] (fun bv iv wr => ∃ c : Nat, c ≤ 16384 ∧ iv = .int .i64 (c : Int) ∧ ∃ o : Option Nat, bv = .int .i64 (bestI o) ∧ Hid (BestT (T (x, y)) m c o) ∧ Hid (RowKit.Below W2.heap.size W2 wr)) (fun _ iv _ => 16384 - (intOf iv).toNat)
    case atStart => exact ⟨0, by omega, rfl, none, rfl, hide BestT.zero, hide (RowKit.Below.refl _ _)⟩
    case round =>
      obtain ⟨c, hc, rfl, o, rfl, HBT, HB⟩ := hrel
      by_cases hcl : c < 16384
      case neg =>
        obtain rfl : c = 16384 := by omega
        have HBW := hide (HB2.out.trans (HB.out.mono HB2.out.size))
        have hz := HX2.out.2.1.below HB.out HX2.out.2.2.2
        have t0 : wr.cell? ⟨W.heap.size + 2, 0, none⟩ = some (.int .i64 0) := hz.1 0 _ rfl
        have t1 : wr.cell? ⟨W.heap.size + 2, 1, none⟩ = some (.int .i64 0) := hz.1 1 _ rfl
        have t2 : wr.cell? ⟨W.heap.size + 2, 2, none⟩ = some (.int .i64 0) := hz.1 2 _ rfl
        have t3 : wr.cell? ⟨W.heap.size + 2, 3, none⟩ = some (.int .i64 0) := hz.1 3 _ rfl
        have t4 := fun o => hz.2 o
        clear hz
        cases o with
        | none =>
          simp only [bestI]
          go_wp2
          refine bodyPost_ret (v := firstV none) (by simp [results, Tryz.f13, go_sem, firstV, t0, t1, t2, t3]) rfl ⟨none, rfl, fun _ => HBT.out, fun _ => rfl, ?_⟩
          first | exact HBW.out | exact (((HBW.out.setCell (by show W.heap.size ≤ W.heap.size + 2; omega) _).setCell (by show W.heap.size ≤ W.heap.size + 2; omega) _).setCell (by show W.heap.size ≤ W.heap.size + 2; omega) _).setCell (by show W.heap.size ≤ W.heap.size + 2; omega) _
        | some b =>
          simp only [bestI]
          have HBL := hide HBT.out.1
          have HPK := hide (packet_walk wr b HBT.out.1)
          have hpv := pk_val b
          clear t0 t1 t2 t3 t4
          go_wp2_with fail
          refine HPK.out.mono ?_
          clear HPK
          rintro e w3 ⟨rfl, hb⟩
          have HBX := hide (HBW.out.trans (hb.mono HBW.out.size))
          have hz := HX2.out.2.1.below (HB.out.trans (hb.mono HB.out.size)) HX2.out.2.2.2
          have t0 : w3.cell? ⟨W.heap.size + 2, 0, none⟩ = some (.int .i64 0) := hz.1 0 _ rfl
          have t1 : w3.cell? ⟨W.heap.size + 2, 1, none⟩ = some (.int .i64 0) := hz.1 1 _ rfl
          have t2 : w3.cell? ⟨W.heap.size + 2, 2, none⟩ = some (.int .i64 0) := hz.1 2 _ rfl
          have t3 : w3.cell? ⟨W.heap.size + 2, 3, none⟩ = some (.int .i64 0) := hz.1 3 _ rfl
          have t4 := fun o => hz.2 o
          have HF := hide (show firstV ((some b).map pk) = firstV (some (pk b)) from rfl)
          rw [hpv]
          obtain ⟨⟨x0, x1, x2, x3⟩, hp⟩ : ∃ p, pk b = p := ⟨_, rfl⟩
          rw [hp] at HF ⊢
          simp only
          clear hz hb hpv hp
          go_wp2
          refine bodyPost_ret (v := firstV (some ⟨x0, x1, x2, x3⟩)) (by simp [results, Tryz.f13, go_sem, firstV, t0, t1, t2, t3]) rfl ⟨some b, by rw [HF.out], fun _ => HBT.out, fun h => absurd hD h, ?_⟩
          exact (((HBX.out.setCell (by show W.heap.size ≤ W.heap.size + 2; omega) _).setCell (by show W.heap.size ≤ W.heap.size + 2; omega) _).setCell (by show W.heap.size ≤ W.heap.size + 2; omega) _).setCell (by show W.heap.size ≤ W.heap.size + 2; omega) _
      case pos =>
        have hci : (c : Int) < 16384 := by omega
        go_wp2_with fail
        obtain ⟨tc, htc⟩ : ∃ tc, T (x, y) c = tc := ⟨_, rfl⟩
        have HTC := hide htc
        clear htc
        have HPK := hide (fun (w : World) => packet_walk w c hcl)
        have hpv := pk_val c
        obtain ⟨⟨x0, x1, x2, x3⟩, hp⟩ : ∃ p, pk c = p := ⟨_, rfl⟩
        rw [hp] at hpv
        simp only [hpv] at HPK
        obtain ⟨IV, hIV⟩ : ∃ IV, inB m ⟨x0, x1, x2, x3⟩ = IV := ⟨_, rfl⟩
        have HHS := hide (fun (w : World) => refHas_walk m ⟨x0, x1, x2, x3⟩ w HM.out IV hIV)
        have HHT := hide (show hitT (T (x, y)) m c ↔ (0 ≤ tc ∧ IV = true) from by unfold hitT; rw [HTC.out, hp, hIV])
        clear hpv hp hIV
        by_cases h0 : 0 ≤ tc
        case neg =>
          refine wp_region_abs (by kernel_rfl) (by kernel_rfl) ?_
          intro TT hT gt hg1 hgi
          have HGT := hide hg1
          have HGI := hide hgi
          clear hg1 hgi
          have k1 : ∀ t, (gt t).cell? ⟨blk (x, y), c, none⟩ = some (.int .i64 tc) := fun t => by
            have := (HS2.out.up (HB.out.trans ((HGT.out t).mono HB.out.size))).tab _ hD c hcl
            rw [HTC.out] at this
            exact this
          have m0 : ∀ t, (gt t).cell? ⟨W.heap.size + 1, 0, none⟩ = some (.int .u16 m.src) := fun t => (HX2.out.1.below (HB.out.trans ((HGT.out t).mono HB.out.size)) HX2.out.2.2.1).1 0 _ rfl
          have m1 : ∀ t, (gt t).cell? ⟨W.heap.size + 1, 1, none⟩ = some (.int .u16 m.dst) := fun t => (HX2.out.1.below (HB.out.trans ((HGT.out t).mono HB.out.size)) HX2.out.2.2.1).1 1 _ rfl
          have m2 : ∀ t, (gt t).cell? ⟨W.heap.size + 1, 2, none⟩ = some (.int .u8 m.sport) := fun t => (HX2.out.1.below (HB.out.trans ((HGT.out t).mono HB.out.size)) HX2.out.2.2.1).1 2 _ rfl
          have m3 : ∀ t, (gt t).cell? ⟨W.heap.size + 1, 3, none⟩ = some (.int .u8 m.dport) := fun t => (HX2.out.1.below (HB.out.trans ((HGT.out t).mono HB.out.size)) HX2.out.2.2.1).1 3 _ rfl
          skip
          repeat (go_big_quiet_step ((first | (go_at_call 41; exact inAbs HGT.out HGI.out (HPK.out _)) | (go_at_call 40; exact inAbs HGT.out HGI.out (HHS.out _)))))
          refine wpQuiet_nil ?_
          intro _ hw'
          obtain ⟨t, rfl⟩ := hw'
          have HB4 := hide (HB.out.trans ((HGT.out t).mono HB.out.size))
          generalize gt t = w5 at *
          clear HGT HGI k1 m0 m1 m2 m3
          go_wp2_with fail
          go_roundw
          case rel => exact ⟨c + 1, by omega, by go_num, o, rfl, hide (HBT.out.no (fun h => h0 (HHT.out.1 h).1)), HB4⟩
          case measure => simp [intOf]; omega
        case pos =>
          cases IV
          case false =>
            refine wp_region_abs (by kernel_rfl) (by kernel_rfl) ?_
            intro TT hT gt hg1 hgi
            have HGT := hide hg1
            have HGI := hide hgi
            clear hg1 hgi
            have k1 : ∀ t, (gt t).cell? ⟨blk (x, y), c, none⟩ = some (.int .i64 tc) := fun t => by
              have := (HS2.out.up (HB.out.trans ((HGT.out t).mono HB.out.size))).tab _ hD c hcl
              rw [HTC.out] at this
              exact this
            have m0 : ∀ t, (gt t).cell? ⟨W.heap.size + 1, 0, none⟩ = some (.int .u16 m.src) := fun t => (HX2.out.1.below (HB.out.trans ((HGT.out t).mono HB.out.size)) HX2.out.2.2.1).1 0 _ rfl
            have m1 : ∀ t, (gt t).cell? ⟨W.heap.size + 1, 1, none⟩ = some (.int .u16 m.dst) := fun t => (HX2.out.1.below (HB.out.trans ((HGT.out t).mono HB.out.size)) HX2.out.2.2.1).1 1 _ rfl
            have m2 : ∀ t, (gt t).cell? ⟨W.heap.size + 1, 2, none⟩ = some (.int .u8 m.sport) := fun t => (HX2.out.1.below (HB.out.trans ((HGT.out t).mono HB.out.size)) HX2.out.2.2.1).1 2 _ rfl
            have m3 : ∀ t, (gt t).cell? ⟨W.heap.size + 1, 3, none⟩ = some (.int .u8 m.dport) := fun t => (HX2.out.1.below (HB.out.trans ((HGT.out t).mono HB.out.size)) HX2.out.2.2.1).1 3 _ rfl
            skip
            repeat (go_big_quiet_step ((first | (go_at_call 41; exact inAbs HGT.out HGI.out (HPK.out _)) | (go_at_call 40; exact inAbs HGT.out HGI.out (HHS.out _)))))
            refine wpQuiet_nil ?_
            intro _ hw'
            obtain ⟨t, rfl⟩ := hw'
            have HB4 := hide (HB.out.trans ((HGT.out t).mono HB.out.size))
            generalize gt t = w5 at *
            clear HGT HGI k1 m0 m1 m2 m3
            go_wp2_with fail
            go_roundw
            case rel => exact ⟨c + 1, by omega, by go_num, o, rfl, hide (HBT.out.no (fun h => Bool.noConfusion (HHT.out.1 h).2)), HB4⟩
            case measure => simp [intOf]; omega
          case true =>
            cases o with
            | none =>
              simp only [bestI]
              refine wp_region_abs (by kernel_rfl) (by kernel_rfl) ?_
              intro TT hT gt hg1 hgi
              have HGT := hide hg1
              have HGI := hide hgi
              clear hg1 hgi
              have k1 : ∀ t, (gt t).cell? ⟨blk (x, y), c, none⟩ = some (.int .i64 tc) := fun t => by
                have := (HS2.out.up (HB.out.trans ((HGT.out t).mono HB.out.size))).tab _ hD c hcl
                rw [HTC.out] at this
                exact this
              have m0 : ∀ t, (gt t).cell? ⟨W.heap.size + 1, 0, none⟩ = some (.int .u16 m.src) := fun t => (HX2.out.1.below (HB.out.trans ((HGT.out t).mono HB.out.size)) HX2.out.2.2.1).1 0 _ rfl
              have m1 : ∀ t, (gt t).cell? ⟨W.heap.size + 1, 1, none⟩ = some (.int .u16 m.dst) := fun t => (HX2.out.1.below (HB.out.trans ((HGT.out t).mono HB.out.size)) HX2.out.2.2.1).1 1 _ rfl
              have m2 : ∀ t, (gt t).cell? ⟨W.heap.size + 1, 2, none⟩ = some (.int .u8 m.sport) := fun t => (HX2.out.1.below (HB.out.trans ((HGT.out t).mono HB.out.size)) HX2.out.2.2.1).1 2 _ rfl
              have m3 : ∀ t, (gt t).cell? ⟨W.heap.size + 1, 3, none⟩ = some (.int .u8 m.dport) := fun t => (HX2.out.1.below (HB.out.trans ((HGT.out t).mono HB.out.size)) HX2.out.2.2.1).1 3 _ rfl
              skip
              repeat (go_big_quiet_step ((first | (go_at_call 41; exact inAbs HGT.out HGI.out (HPK.out _)) | (go_at_call 40; exact inAbs HGT.out HGI.out (HHS.out _)))))
              refine wpQuiet_nil ?_
              intro _ hw'
              obtain ⟨t, rfl⟩ := hw'
              have HB4 := hide (HB.out.trans ((HGT.out t).mono HB.out.size))
              generalize gt t = w5 at *
              clear HGT HGI k1 m0 m1 m2 m3
              go_wp2_with fail
              go_roundw
              case rel => exact ⟨c + 1, by omega, by go_num, some c, rfl, hide (HBT.out.new (HHT.out.2 ⟨h0, rfl⟩)), HB4⟩
              case measure => simp [intOf]; omega
            | some b =>
              simp only [bestI]
              obtain ⟨tb, htb⟩ : ∃ tb, T (x, y) b = tb := ⟨_, rfl⟩
              have HTB := hide htb
              have hbl := HBT.out.1
              have hbl2 : b < 16384 := by omega
              have hbi : (b : Int) < 16384 := by omega
              have hb0 : ¬ ((b : Int) < 0) := by omega
              clear htb
              by_cases hlt : tc < tb
              case pos =>
                refine wp_region_abs (by kernel_rfl) (by kernel_rfl) ?_
                intro TT hT gt hg1 hgi
                have HGT := hide hg1
                have HGI := hide hgi
                clear hg1 hgi
                have k1 : ∀ t, (gt t).cell? ⟨blk (x, y), c, none⟩ = some (.int .i64 tc) := fun t => by
                  have := (HS2.out.up (HB.out.trans ((HGT.out t).mono HB.out.size))).tab _ hD c hcl
                  rw [HTC.out] at this
                  exact this
                have m0 : ∀ t, (gt t).cell? ⟨W.heap.size + 1, 0, none⟩ = some (.int .u16 m.src) := fun t => (HX2.out.1.below (HB.out.trans ((HGT.out t).mono HB.out.size)) HX2.out.2.2.1).1 0 _ rfl
                have m1 : ∀ t, (gt t).cell? ⟨W.heap.size + 1, 1, none⟩ = some (.int .u16 m.dst) := fun t => (HX2.out.1.below (HB.out.trans ((HGT.out t).mono HB.out.size)) HX2.out.2.2.1).1 1 _ rfl
                have m2 : ∀ t, (gt t).cell? ⟨W.heap.size + 1, 2, none⟩ = some (.int .u8 m.sport) := fun t => (HX2.out.1.below (HB.out.trans ((HGT.out t).mono HB.out.size)) HX2.out.2.2.1).1 2 _ rfl
                have m3 : ∀ t, (gt t).cell? ⟨W.heap.size + 1, 3, none⟩ = some (.int .u8 m.dport) := fun t => (HX2.out.1.below (HB.out.trans ((HGT.out t).mono HB.out.size)) HX2.out.2.2.1).1 3 _ rfl
                have k2 : ∀ t, (gt t).cell? ⟨blk (x, y), b, none⟩ = some (.int .i64 tb) := fun t => by have := (HS2.out.up (HB.out.trans ((HGT.out t).mono HB.out.size))).tab _ hD b hbl2; rw [HTB.out] at this; exact this
                repeat (go_big_quiet_step ((first | (go_at_call 41; exact inAbs HGT.out HGI.out (HPK.out _)) | (go_at_call 40; exact inAbs HGT.out HGI.out (HHS.out _)))))
                refine wpQuiet_nil ?_
                intro _ hw'
                obtain ⟨t, rfl⟩ := hw'
                have HB4 := hide (HB.out.trans ((HGT.out t).mono HB.out.size))
                generalize gt t = w5 at *
                clear HGT HGI k1 m0 m1 m2 m3
                clear k2
                go_wp2_with fail
                go_roundw
                case rel => exact ⟨c + 1, by omega, by go_num, some c, rfl, hide (HBT.out.less (HHT.out.2 ⟨h0, rfl⟩) (by rw [HTC.out, HTB.out]; exact hlt)), HB4⟩
                case measure => simp [intOf]; omega
              case neg =>
                refine wp_region_abs (by kernel_rfl) (by kernel_rfl) ?_
                intro TT hT gt hg1 hgi
                have HGT := hide hg1
                have HGI := hide hgi
                clear hg1 hgi
                have k1 : ∀ t, (gt t).cell? ⟨blk (x, y), c, none⟩ = some (.int .i64 tc) := fun t => by
                  have := (HS2.out.up (HB.out.trans ((HGT.out t).mono HB.out.size))).tab _ hD c hcl
                  rw [HTC.out] at this
                  exact this
                have m0 : ∀ t, (gt t).cell? ⟨W.heap.size + 1, 0, none⟩ = some (.int .u16 m.src) := fun t => (HX2.out.1.below (HB.out.trans ((HGT.out t).mono HB.out.size)) HX2.out.2.2.1).1 0 _ rfl
                have m1 : ∀ t, (gt t).cell? ⟨W.heap.size + 1, 1, none⟩ = some (.int .u16 m.dst) := fun t => (HX2.out.1.below (HB.out.trans ((HGT.out t).mono HB.out.size)) HX2.out.2.2.1).1 1 _ rfl
                have m2 : ∀ t, (gt t).cell? ⟨W.heap.size + 1, 2, none⟩ = some (.int .u8 m.sport) := fun t => (HX2.out.1.below (HB.out.trans ((HGT.out t).mono HB.out.size)) HX2.out.2.2.1).1 2 _ rfl
                have m3 : ∀ t, (gt t).cell? ⟨W.heap.size + 1, 3, none⟩ = some (.int .u8 m.dport) := fun t => (HX2.out.1.below (HB.out.trans ((HGT.out t).mono HB.out.size)) HX2.out.2.2.1).1 3 _ rfl
                have k2 : ∀ t, (gt t).cell? ⟨blk (x, y), b, none⟩ = some (.int .i64 tb) := fun t => by have := (HS2.out.up (HB.out.trans ((HGT.out t).mono HB.out.size))).tab _ hD b hbl2; rw [HTB.out] at this; exact this
                repeat (go_big_quiet_step ((first | (go_at_call 41; exact inAbs HGT.out HGI.out (HPK.out _)) | (go_at_call 40; exact inAbs HGT.out HGI.out (HHS.out _)))))
                refine wpQuiet_nil ?_
                intro _ hw'
                obtain ⟨t, rfl⟩ := hw'
                have HB4 := hide (HB.out.trans ((HGT.out t).mono HB.out.size))
                generalize gt t = w5 at *
                clear HGT HGI k1 m0 m1 m2 m3
                clear k2
                go_wp2_with fail
                go_roundw
                case rel => exact ⟨c + 1, by omega, by go_num, some b, rfl, hide (HBT.out.keep (by rw [HTC.out, HTB.out]; exact hlt)), HB4⟩
                case measure => simp [intOf]; omega
  · go_region
    clear hlk c1 z0 z1
    generalize World.drew W1 = W2 at *
    go_wp2_with fail
    go_loopw [8, 10] (fun bv iv wr => bv = .int .i64 (-1) ∧ iv = .int .i64 0 ∧ Hid (wr = W2)) (fun _ _ _ => 0)
    case atStart => exact ⟨rfl, rfl, hide rfl⟩
    case round =>
      obtain ⟨rfl, rfl, HW⟩ := hrel
      obtain rfl := HW.out
      have hz := HX2.out.2.1
      have t0 : wr.cell? ⟨W.heap.size + 2, 0, none⟩ = some (.int .i64 0) := hz.1 0 _ rfl
      have t1 : wr.cell? ⟨W.heap.size + 2, 1, none⟩ = some (.int .i64 0) := hz.1 1 _ rfl
      have t2 : wr.cell? ⟨W.heap.size + 2, 2, none⟩ = some (.int .i64 0) := hz.1 2 _ rfl
      have t3 : wr.cell? ⟨W.heap.size + 2, 3, none⟩ = some (.int .i64 0) := hz.1 3 _ rfl
      have t4 := fun o => hz.2 o
      go_wp2
      refine bodyPost_ret (v := firstV none) (by simp [results, Tryz.f13, go_sem, firstV, t0, t1, t2, t3]) rfl ⟨none, rfl, fun h => (by first | exact absurd h hD | exact h.elim), fun _ => rfl, ?_⟩
      first | exact HB2.out | exact (((HB2.out.setCell (by show W.heap.size ≤ W.heap.size + 2; omega) _).setCell (by show W.heap.size ≤ W.heap.size + 2; omega) _).setCell (by show W.heap.size ≤ W.heap.size + 2; omega) _).setCell (by show W.heap.size ≤ W.heap.size + 2; omega) _
end Go.Proofs.YtifkacnoiocebaaGreat
