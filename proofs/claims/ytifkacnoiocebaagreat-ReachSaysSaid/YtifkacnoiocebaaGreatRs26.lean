/- A part of the proof: Sp6, Sp7, Sp8. -/
import Derived.Test.YtifkacnoiocebaaGreatRs25
set_option linter.unusedVariables false
set_option linter.unusedSimpArgs false
set_option maxRecDepth 100000
set_option maxHeartbeats 16000000
namespace Go.Proofs.YtifkacnoiocebaaGreat
open Go.Maps Go.RowKit Go.WideElems
theorem PutR.far {ls : List LinkV} {k : Nat} {y x : PoK} {c : Nat} {T : PoK → Nat → Int} {more : Bool} (hp : peerF ls y = some x) (h : ¬ T x c < 0) : PutR ls k y c T more T more := by
  unfold PutR
  rw [hp]
  show (if T x c < 0 then _ else _)
  rw [if_neg h]
  exact ⟨rfl, rfl⟩
theorem PutR.near {ls : List LinkV} {k : Nat} {y x : PoK} {c : Nat} {T : PoK → Nat → Int} {more : Bool} (hp : peerF ls y = some x) (h : T x c < 0) : PutR ls k y c T more (updT T x c ((k : Int) + 1)) true := by
  unfold PutR
  rw [hp]
  show (if T x c < 0 then _ else _)
  rw [if_pos h]
  exact ⟨rfl, rfl⟩
def PutP (E : SE) (w : World) (T : PoK → Nat → Int) (more : Bool) (y : PoK) (c : Nat) (w' : World) : Prop := ∃ T' more', PSt E w' T' more' ∧ KC E.C w w' ∧ PutR E.n.ls E.k y c T more T' more'
theorem put_some (E : SE) (hE : E.Ok) (w : World) (T : PoK → Nat → Int) (more : Bool) (h : PSt E w T more) (i port : Int) (a b s t : Nat) (hf : Fld a b s t) (y1 y2 : Int) (hp : peerF E.n.ls (i, port) = some (y1, y2)) :
    Calls Tryz.prog 32 #[.int .i64 i, .int .i64 port, .agg #[.int .i64 (a : Int), .int .i64 (b : Int), .int .i64 (s : Int), .int .i64 (t : Int)], .pointer (some ⟨E.nA, 0, none⟩), .pointer (some ⟨E.pS, 0, none⟩), .pointer (some ⟨E.kA, 0, none⟩), .pointer (some ⟨E.mA, 0, none⟩)] w fun e w' => e = .returned (.tuple #[]) ∧ PutP E w T more (i, port) (code4 a b s t) w' := by
  have hD := hE.peer _ _ hp
  have hdm := hE.dom _ hD
  have hn9 : E.n.ln ≤ 9223372036854775807 := by have := hE.ln; have := h.net.ls.1; omega
  have HE := hide hE
  have HS0 := hide h
  have HF := hide hf
  have HPU := hide (fun (o : Obj) => h.up hE (below_alloc2 w o))
  have HPE := hide (fun (w1 : World) (hb : RowKit.Below w.heap.size w w1) => refPeer_any E.n.dA E.n.dn E.n.dc E.n.lA E.n.ln E.n.lc E.n.ls i port w1 hn9 ((h.up hE hb).net.ls.below (RowKit.Below.refl _ _) (Nat.le_trans hE.BN (h.up hE hb).sz)))
  have HBX := hide (BoxV.new w #[.int .i64 (a : Int), .int .i64 (b : Int), .int .i64 (s : Int), .int .i64 (t : Int)] 29)
  rw [hp] at HPE
  have HDM := hide hdm
  have HD := hide hD
  have HP := hide hp
  have a0 := fun (o : Obj) => (HPU.out o).nb.1 0 _ rfl
  have a1 := fun (o : Obj) => (HPU.out o).nb.1 1 _ rfl
  clear h hE hf hp hD hdm
  obtain ⟨c, hc⟩ : ∃ c, code4 a b s t = c := ⟨_, rfl⟩
  rw [hc]
  have HC := hide hc
  have HCL := hide (show c < 16384 from hc ▸ HF.out.lt)
  clear hc
  go_enter Tryz.func32, Tryz.ntmps32
  go_wp2_with fail
  refine (HPE.out _ (below_alloc2 w _)).mono ?_
  clear HPE a0 a1
  rintro en w1 ⟨rfl, hb0⟩
  have HX1 := hide (HBX.out.below hb0 (by simp))
  have HB1 := hide ((below_alloc2 w (.cells #[.int .i64 (a : Int), .int .i64 (b : Int), .int .i64 (s : Int), .int .i64 (t : Int)] 29)).trans (hb0.mono (below_alloc2 w _).size))
  have HZ1 := hide (show w.heap.size < w1.heap.size from Nat.lt_of_lt_of_le (by simp) hb0.size)
  clear hb0 HBX HPU
  generalize World.alloc w _ = wz at *
  simp only [peerV]
  go_wp2_with fail
  have HB2 := hide (HB1.out.trans ((below_alloc2 w1 (.cells #[.int .i64 y1, .int .i64 y2] 27)).mono HB1.out.size))
  have HX2 := hide (HX1.out.below (below_alloc2 w1 (.cells #[.int .i64 y1, .int .i64 y2] 27)) HZ1.out)
  have HY2 := hide (BoxV.new w1 #[.int .i64 y1, .int .i64 y2] 27)
  have HZ2 := hide (show w.heap.size < (w1.alloc (.cells #[.int .i64 y1, .int .i64 y2] 27)).heap.size ∧ w1.heap.size < (w1.alloc (.cells #[.int .i64 y1, .int .i64 y2] 27)).heap.size from ⟨Nat.lt_of_lt_of_le HZ1.out (below_alloc2 w1 _).size, by simp⟩)
  clear HB1 HX1 HZ1
  generalize World.alloc w1 _ = w2 at *
  generalize w1.heap.size = N at *
  have HSW := hide (fun (w' : World) (hb : RowKit.Below w2.heap.size w2 w') => (HS0.out.up HE.out HB2.out |>.up HE.out hb))
  have HQ := hide (fun (w' : World) (hb : RowKit.Below w2.heap.size w2 w') => show (w'.cell? ⟨E.pS, 0, none⟩ = some (.pointer (some ⟨E.s, 0, none⟩)) ∧ w'.cell? ⟨E.s, 1, none⟩ = some (.map (some E.mb)) ∧ w'.cell? ⟨E.kA, 0, none⟩ = some (.int .i64 (E.k : Int)) ∧ w'.cell? ⟨N, 0, none⟩ = some (.int .i64 y1) ∧ w'.cell? ⟨N, 1, none⟩ = some (.int .i64 y2) ∧ w'.cell? ⟨w.heap.size, 0, none⟩ = some (.int .i64 (a : Int)) ∧ w'.cell? ⟨w.heap.size, 1, none⟩ = some (.int .i64 (b : Int)) ∧ w'.cell? ⟨w.heap.size, 2, none⟩ = some (.int .i64 (s : Int)) ∧ w'.cell? ⟨w.heap.size, 3, none⟩ = some (.int .i64 (t : Int)) ∧ w'.cell? ⟨E.blk (y1, y2), c, none⟩ = some (.int .i64 (T (y1, y2) c))) ∧ (Instr.lookup 42 (.map (some E.mb)) (.agg #[.int .i64 y1, .int .i64 y2]) false).run Tryz.prog w' = .ok (.slice (some ⟨E.blk (y1, y2), 0, none⟩) 16384 16384) w' from by
    have hs := HSW.out w' hb
    have hx := HX2.out.below hb HZ2.out.1
    have hy := HY2.out.below hb HZ2.out.2
    have hl := hs.st.mp.lookS y1 y2 HDM.out.1 HDM.out.2
    rw [hs.st.val _ HD.out] at hl
    exact ⟨⟨hs.sp.1 0 _ rfl, hs.st.c1, hs.kk.1 0 _ rfl, hy.1 0 _ rfl, hy.1 1 _ rfl, hx.1 0 _ rfl, hx.1 1 _ rfl, hx.1 2 _ rfl, hx.1 3 _ rfl, hs.st.tab _ HD.out c HCL.out⟩, hl⟩)
  have HCO := hide (fun (w' : World) => show Calls Tryz.prog 33 #[.agg #[.int .i64 (a : Int), .int .i64 (b : Int), .int .i64 (s : Int), .int .i64 (t : Int)]] w' (fun e W' => e = .returned (.int .i64 (c : Int)) ∧ RowKit.Below w'.heap.size w' W') from by
    have := codeR_walk a b s t HF.out.a HF.out.b HF.out.s HF.out.d w'
    rw [← HC.out]
    exact this)
  have hci : (c : Int) < 16384 := by have := HCL.out; omega
  have hc0 : (0 : Int) ≤ (c : Int) := by omega
  have HIB := hide (show RowKit.Below w2.heap.size w2 w2.drew from (RowKit.Below.refl _ _).drew)
  obtain ⟨v, hv⟩ : ∃ v, T (y1, y2) c = v := ⟨_, rfl⟩
  have HV := hide hv
  rw [hv] at HQ
  clear hv
  obtain ⟨bk, hbk⟩ : ∃ bk, E.blk (y1, y2) = bk := ⟨_, rfl⟩
  have HBK := hide hbk
  rw [hbk] at HQ
  clear hbk
  generalize hk : E.k = k at *
  have HK := hide hk
  clear hk
  refine wp_region_E (fun w' => (w'.cell? ⟨E.pS, 0, none⟩ = some (.pointer (some ⟨E.s, 0, none⟩)) ∧ w'.cell? ⟨E.s, 1, none⟩ = some (.map (some E.mb)) ∧ w'.cell? ⟨E.kA, 0, none⟩ = some (.int .i64 (k : Int)) ∧ w'.cell? ⟨N, 0, none⟩ = some (.int .i64 y1) ∧ w'.cell? ⟨N, 1, none⟩ = some (.int .i64 y2) ∧ w'.cell? ⟨w.heap.size, 0, none⟩ = some (.int .i64 (a : Int)) ∧ w'.cell? ⟨w.heap.size, 1, none⟩ = some (.int .i64 (b : Int)) ∧ w'.cell? ⟨w.heap.size, 2, none⟩ = some (.int .i64 (s : Int)) ∧ w'.cell? ⟨w.heap.size, 3, none⟩ = some (.int .i64 (t : Int)) ∧ w'.cell? ⟨bk, c, none⟩ = some (.int .i64 v)) ∧ (Instr.lookup 42 (.map (some E.mb)) (.agg #[.int .i64 y1, .int .i64 y2]) false).run Tryz.prog w' = .ok (.slice (some ⟨bk, 0, none⟩) 16384 16384) w') 13 (by kernel_rfl) (HQ.out _ HIB.out) (fun hS => ?_)
  refine rP 0 hS ?_
  refine rP 1 hS ?_
  refine rL 2 [3, 4, 5, 7, 10, 11, 12, 13] rfl hS (by intro w hSw; obtain ⟨⟨s0, s1, s2, s3, s4, s5, s6, s7, s8, s9⟩, s10⟩ := hSw; go_simp; try with_reducible rfl) ?_
  refine rP 3 hS ?_
  refine rP 4 hS ?_
  refine rL 5 [7, 10, 11, 12, 13] rfl hS (by intro w hSw; obtain ⟨⟨s0, s1, s2, s3, s4, s5, s6, s7, s8, s9⟩, s10⟩ := hSw; go_simp; try with_reducible rfl) ?_
  refine rL 6 [7, 10, 11, 12, 13] rfl hS (by intro w hSw; obtain ⟨⟨s0, s1, s2, s3, s4, s5, s6, s7, s8, s9⟩, s10⟩ := hSw; go_simp; try with_reducible rfl) ?_
  refine rL 7 [10, 11, 12, 13] rfl hS (by intro w hSw; obtain ⟨⟨s0, s1, s2, s3, s4, s5, s6, s7, s8, s9⟩, s10⟩ := hSw; go_simp; try with_reducible rfl) ?_
  refine rL 8 [9, 10, 11, 12, 13] rfl hS (by intro w hSw; obtain ⟨⟨s0, s1, s2, s3, s4, s5, s6, s7, s8, s9⟩, s10⟩ := hSw; go_simp; try with_reducible rfl) ?_
  intro inv
  refine rO 9 inv fun K hK => ?_
  go_simp
  refine (HCO.out _).mono ?_
  rintro en w3 ⟨rfl, hb3⟩
  have HB3 := hide (HIB.out.trans (hb3.mono HIB.out.size))
  clear hb3 hS HIB
  have hS := HQ.out _ HB3.out
  go_simp
  refine hK.out _ _ (fun _ => hS) ?_
  clear hK K hS inv
  intro inv
  try simp only [Act.put, nrmA, nrmB, nrmC]
  have hS := HQ.out _ HB3.out
  revert inv
  refine rP 10 hS ?_
  refine rL 11 [12, 13] rfl hS (by intro w hSw; obtain ⟨⟨s0, s1, s2, s3, s4, s5, s6, s7, s8, s9⟩, s10⟩ := hSw; go_simp; try with_reducible rfl) ?_
  refine rP 12 hS ?_
  intro inv
  refine rT 13 inv fun K hK => ?_
  go_simp
  refine hK.out _ _ ?_
  clear hK K inv
  intro inv
  try simp only [Act.put, nrmA, nrmB, nrmC]
  refine rD ?_
  clear inv
  clear hS
  by_cases h0 : v < 0
  case neg =>
    go_wp2
    go_end0
    refine ⟨rfl, T, more, HSW.out _ HB3.out, KC.of_below (HB2.out.trans (HB3.out.mono HB2.out.size)), ?_⟩
    exact PutR.far HP.out (by rw [HV.out]; omega)
  case pos =>
    have hkn : k ≤ 1000000000 := by have := HE.out.kb; rw [HK.out] at this; exact this
    have hfr : ∀ (w' : World), RowKit.Below w2.heap.size w2 w' → w'.frozen? ⟨bk, c, none⟩ = false := fun w' hb => by rw [← HBK.out]; exact (HSW.out w' hb).fr _ HD.out c
    have HFR := hide hfr
    clear hfr
    go_wp2_with fail
    refine wp_region_E (fun w' => (w'.cell? ⟨E.pS, 0, none⟩ = some (.pointer (some ⟨E.s, 0, none⟩)) ∧ w'.cell? ⟨E.s, 1, none⟩ = some (.map (some E.mb)) ∧ w'.cell? ⟨E.kA, 0, none⟩ = some (.int .i64 (k : Int)) ∧ w'.cell? ⟨N, 0, none⟩ = some (.int .i64 y1) ∧ w'.cell? ⟨N, 1, none⟩ = some (.int .i64 y2) ∧ w'.cell? ⟨w.heap.size, 0, none⟩ = some (.int .i64 (a : Int)) ∧ w'.cell? ⟨w.heap.size, 1, none⟩ = some (.int .i64 (b : Int)) ∧ w'.cell? ⟨w.heap.size, 2, none⟩ = some (.int .i64 (s : Int)) ∧ w'.cell? ⟨w.heap.size, 3, none⟩ = some (.int .i64 (t : Int)) ∧ w'.cell? ⟨bk, c, none⟩ = some (.int .i64 v)) ∧ (Instr.lookup 42 (.map (some E.mb)) (.agg #[.int .i64 y1, .int .i64 y2]) false).run Tryz.prog w' = .ok (.slice (some ⟨bk, 0, none⟩) 16384 16384) w') 11 (by kernel_rfl) (HQ.out _ HB3.out.drew) (fun hS => ?_)
    refine rL 0 [1, 2, 3, 5, 10, 11] rfl hS (by intro w hSw; obtain ⟨⟨s0, s1, s2, s3, s4, s5, s6, s7, s8, s9⟩, s10⟩ := hSw; go_simp; try with_reducible rfl) ?_
    refine rP 1 hS ?_
    refine rP 2 hS ?_
    refine rL 3 [5, 10, 11] rfl hS (by intro w hSw; obtain ⟨⟨s0, s1, s2, s3, s4, s5, s6, s7, s8, s9⟩, s10⟩ := hSw; go_simp; try with_reducible rfl) ?_
    refine rL 4 [5, 10, 11] rfl hS (by intro w hSw; obtain ⟨⟨s0, s1, s2, s3, s4, s5, s6, s7, s8, s9⟩, s10⟩ := hSw; go_simp; try with_reducible rfl) ?_
    refine rL 5 [10, 11] rfl hS (by intro w hSw; obtain ⟨⟨s0, s1, s2, s3, s4, s5, s6, s7, s8, s9⟩, s10⟩ := hSw; go_simp; try with_reducible rfl) ?_
    refine rL 6 [7, 10, 11] rfl hS (by intro w hSw; obtain ⟨⟨s0, s1, s2, s3, s4, s5, s6, s7, s8, s9⟩, s10⟩ := hSw; go_simp; try with_reducible rfl) ?_
    refine rL 8 [9, 11] rfl hS (by intro w hSw; obtain ⟨⟨s0, s1, s2, s3, s4, s5, s6, s7, s8, s9⟩, s10⟩ := hSw; go_simp; try with_reducible rfl) ?_
    refine rP 9 hS ?_
    intro inv
    refine rO 7 inv fun K hK => ?_
    go_simp
    refine (HCO.out _).mono ?_
    rintro en w4 ⟨rfl, hb4⟩
    have HB4 := hide (HB3.out.drew.trans (hb4.mono HB3.out.drew.size))
    clear hb4 hS HB3
    have hS := HQ.out _ HB4.out
    go_simp
    refine hK.out _ _ (fun _ => hS) ?_
    clear hK K hS inv
    intro inv
    try simp only [Act.put, nrmA, nrmB, nrmC]
    have hS := HQ.out _ HB4.out
    revert inv
    refine rP 10 hS ?_
    intro inv
    have hfr := HFR.out _ HB4.out
    obtain ⟨⟨s0, s1, s2, s3, s4, s5, s6, s7, s8, s9⟩, s10⟩ := hS
    have hS := trivial
    refine rT 11 inv fun K hK => ?_
    go_simp
    refine hK.out _ _ ?_
    clear hK K inv
    intro inv
    try simp only [Act.put, nrmA, nrmB, nrmC]
    refine rD ?_
    clear inv
    clear s0 s1 s2 s3 s4 s5 s6 s7 s8 s9 s10 hfr hS
    have hwr : IntKind.i64.wrap ((k : Int) + 1) = (k : Int) + 1 := by rw [IntKind.wrap_i64]; omega
    rw [hwr]
    clear hwr
    have HR := hide (show PSt E (w4.setCell ⟨bk, c, none⟩ (.int .i64 ((k : Int) + 1))) (updT T (y1, y2) c ((k : Int) + 1)) more ∧ KC E.C w (w4.setCell ⟨bk, c, none⟩ (.int .i64 ((k : Int) + 1))) from by
      have h1 := HSW.out _ HB4.out
      refine ⟨?_, (KC.of_below (HB2.out.trans (HB4.out.mono HB2.out.size))).trans (KC.of_set _ _ (.inr ⟨(y1, y2), HD.out, HBK.out.symm⟩))⟩
      have := h1.put HE.out HD.out c HCL.out ((k : Int) + 1)
      rw [HBK.out] at this
      exact this)
    clear HQ HSW HB4 HFR HB2
    generalize World.setCell w4 _ _ = w5 at *
    have m0 : w5.cell? ⟨E.mA, 0, none⟩ = some (.bool more) := HR.out.1.mo.1 0 _ rfl
    have m1 : w5.frozen? ⟨E.mA, 0, none⟩ = false := HR.out.1.mo.2 0
    go_wp2
    go_end0
    refine ⟨rfl, _, true, HR.out.1.said HE.out true, HR.out.2.trans (KC.of_set _ _ (.inl rfl)), ?_⟩
    have hh := PutR.near (ls := E.n.ls) (k := k) (T := T) (c := c) (more := more) HP.out (by rw [HV.out]; omega)
    first | exact hh | (rw [HK.out]; exact hh)
theorem put_any (E : SE) (hE : E.Ok) (w : World) (T : PoK → Nat → Int) (more : Bool) (h : PSt E w T more) (i port : Int) (a b s t : Nat) (hf : Fld a b s t) :
    Calls Tryz.prog 32 #[.int .i64 i, .int .i64 port, .agg #[.int .i64 (a : Int), .int .i64 (b : Int), .int .i64 (s : Int), .int .i64 (t : Int)], .pointer (some ⟨E.nA, 0, none⟩), .pointer (some ⟨E.pS, 0, none⟩), .pointer (some ⟨E.kA, 0, none⟩), .pointer (some ⟨E.mA, 0, none⟩)] w fun e w' => e = .returned (.tuple #[]) ∧ PutP E w T more (i, port) (code4 a b s t) w' := by
  cases hp : peerF E.n.ls (i, port) with
  | some y => exact put_some E hE w T more h i port a b s t hf y.1 y.2 hp
  | none =>
    have hn9 : E.n.ln ≤ 9223372036854775807 := by have := hE.ln; have := h.net.ls.1; omega
    refine (put_none w E.nA E.pS E.kA E.mA E.n hn9 (h.net.ls.below (RowKit.Below.refl _ _) (Nat.le_trans hE.BN h.sz)) h.nb i port ⟨(a : Int), (b : Int), (s : Int), (t : Int)⟩ hp).mono ?_
    rintro e w' ⟨rfl, hb⟩
    exact ⟨rfl, T, more, h.up hE hb, KC.of_below hb, by unfold PutR; rw [hp]; exact ⟨rfl, rfl⟩⟩
def SP (E : SE) (Dn : PoK → Nat → Prop) (w : World) : Prop := ∃ T more, PSt E w T more ∧ InvT E.k (tabF E.n.devs E.n.ls E.k) Dn T more
theorem SP.congr {E : SE} {Dn Dn' : PoK → Nat → Prop} {w : World} (h : SP E Dn w) (e : ∀ x c, c < 16384 → (Dn x c ↔ Dn' x c)) : SP E Dn' w := by
  obtain ⟨T, more, h1, h2⟩ := h
  exact ⟨T, more, h1, h2.congr e⟩
theorem SP.below {E : SE} {Dn : PoK → Nat → Prop} {w w' : World} (h : SP E Dn w) (hE : E.Ok) (hb : RowKit.Below E.N w w') : SP E Dn w' := by
  obtain ⟨T, more, h1, h2⟩ := h
  exact ⟨T, more, h1.below hE hb, h2⟩
theorem SP.up {E : SE} {Dn : PoK → Nat → Prop} {w w' : World} (h : SP E Dn w) (hE : E.Ok) (hb : RowKit.Below w.heap.size w w') : SP E Dn w' := by
  obtain ⟨T, more, h1, h2⟩ := h
  exact ⟨T, more, h1.up hE hb, h2⟩
theorem put_sp (E : SE) (hE : E.Ok) (w : World) (Dn : PoK → Nat → Prop) (h : SP E Dn w) (i port : Int) (a b s t : Nat) (hf : Fld a b s t) :
    Calls Tryz.prog 32 #[.int .i64 i, .int .i64 port, .agg #[.int .i64 (a : Int), .int .i64 (b : Int), .int .i64 (s : Int), .int .i64 (t : Int)], .pointer (some ⟨E.nA, 0, none⟩), .pointer (some ⟨E.pS, 0, none⟩), .pointer (some ⟨E.kA, 0, none⟩), .pointer (some ⟨E.mA, 0, none⟩)] w fun e w' => e = .returned (.tuple #[]) ∧ SP E (addD E.n.ls (i, port) (code4 a b s t) Dn) w' ∧ KC E.C w w' := by
  obtain ⟨T, more, h1, h2⟩ := h
  refine (put_any E hE w T more h1 i port a b s t hf).mono ?_
  rintro e w' ⟨rfl, T', more', h3, h4, h5⟩
  exact ⟨rfl, ⟨T', more', h3, h2.put hf.lt h5⟩, h4⟩
theorem was_sp (E : SE) (hE : E.Ok) (w : World) (Dn : PoK → Nat → Prop) (h : SP E Dn w) (i port : Int) (hD : E.D (i, port)) (c : Nat) (hc : c < 16384) :
    Calls Tryz.prog 64 #[.pointer (some ⟨E.s, 0, none⟩), .int .i64 i, .int .i64 port, .int .i64 (c : Int), .int .i64 (E.k : Int)] w fun e w' => e = .returned (.bool (inS E.n.devs E.n.ls E.k (i, port) c)) ∧ w = w' := by
  obtain ⟨T, more, h1, h2⟩ := h
  have hd := hE.dom _ hD
  refine (was_walk w E.s E.mb 0 E.D E.blk T E.M h1.st i port hd.1 hd.2 hD c hc (E.k : Int)).mono ?_
  rintro e w' ⟨rfl, rfl⟩
  rw [h2.was (i, port) c hc]
  exact ⟨rfl, rfl⟩
def DnAt (ls : List LinkV) (i : Nat) (W : Nat → Nat → Bool) (T : Nat → Nat → Nat → Nat → Prop) (Dn : PoK → Nat → Prop) (P C : Nat) : PoK → Nat → Prop := fun x c' =>
  Dn x c' ∨ ∃ port c, (port < P ∨ (port = P ∧ c < C)) ∧ c < 16384 ∧ W port c = true ∧ ∃ o : Nat, T port c o c' ∧ peerF ls ((i : Int), (o : Int)) = some x
section
variable {ls : List LinkV} {i : Nat} {W : Nat → Nat → Bool} {T : Nat → Nat → Nat → Nat → Prop} {Dn : PoK → Nat → Prop} {P C : Nat}
theorem DnAt.zero (x : PoK) (c' : Nat) : Dn x c' ↔ DnAt ls i W T Dn 0 0 x c' :=
  ⟨.inl, fun h => h.elim id (fun ⟨port, c, h, _⟩ => by omega)⟩
theorem DnAt.row (x : PoK) (c' : Nat) : DnAt ls i W T Dn P 16384 x c' ↔ DnAt ls i W T Dn (P + 1) 0 x c' := by
  unfold DnAt
  refine or_congr Iff.rfl ⟨fun ⟨port, c, h, hc, h2⟩ => ⟨port, c, by omega, hc, h2⟩, fun ⟨port, c, h, hc, h2⟩ => ⟨port, c, by omega, hc, h2⟩⟩
theorem DnAt.no (h : W P C = false) (x : PoK) (c' : Nat) : DnAt ls i W T Dn P C x c' ↔ DnAt ls i W T Dn P (C + 1) x c' := by
  unfold DnAt
  refine or_congr Iff.rfl ⟨fun ⟨port, c, h, hc, h2⟩ => ⟨port, c, by omega, hc, h2⟩, fun ⟨port, c, h1, hc, h2, h3⟩ => ⟨port, c, ?_, hc, h2, h3⟩⟩
  by_cases e : port = P ∧ c = C
  · obtain ⟨rfl, rfl⟩ := e
    rw [h] at h2; cases h2
  · omega
theorem DnAt.step (h : W P C = true) (hC : C < 16384) (x : PoK) (c' : Nat) : (DnAt ls i W T Dn P C x c' ∨ ∃ o : Nat, T P C o c' ∧ peerF ls ((i : Int), (o : Int)) = some x) ↔ DnAt ls i W T Dn P (C + 1) x c' := by
  unfold DnAt
  constructor
  · rintro ((h1 | ⟨port, c, h1, hc, h2⟩) | ⟨o, h1, h2⟩)
    · exact .inl h1
    · exact .inr ⟨port, c, by omega, hc, h2⟩
    · exact .inr ⟨P, C, by omega, hC, h, o, h1, h2⟩
  · rintro (h1 | ⟨port, c, h1, hc, h2, o, h3, h4⟩)
    · exact .inl (.inl h1)
    · by_cases e : port = P ∧ c = C
      · obtain ⟨rfl, rfl⟩ := e
        exact .inr ⟨o, h3, h4⟩
      · exact .inl (.inr ⟨port, c, by omega, hc, h2, o, h3, h4⟩)
theorem DnAt.none_ (h : W P C = true) (hC : C < 16384) (hT : ∀ o c', ¬ T P C o c') (x : PoK) (c' : Nat) : DnAt ls i W T Dn P C x c' ↔ DnAt ls i W T Dn P (C + 1) x c' :=
  Iff.trans ⟨.inl, fun q => q.elim id (fun ⟨o, q, _⟩ => absurd q (hT o c'))⟩ (DnAt.step h hC x c')
theorem DnAt.one (h : W P C = true) (hC : C < 16384) {o0 c0 : Nat} (hT : ∀ o c', T P C o c' ↔ (o = o0 ∧ c' = c0)) (x : PoK) (c' : Nat) : addD ls ((i : Int), (o0 : Int)) c0 (DnAt ls i W T Dn P C) x c' ↔ DnAt ls i W T Dn P (C + 1) x c' := by
  refine Iff.trans ?_ (DnAt.step h hC x c')
  unfold addD
  refine or_congr Iff.rfl ⟨fun ⟨h1, h2⟩ => ⟨o0, (hT _ _).2 ⟨rfl, h2⟩, h1⟩, fun ⟨o, h1, h2⟩ => ?_⟩
  obtain ⟨rfl, rfl⟩ := (hT _ _).1 h1
  exact ⟨h2, rfl⟩
end
def DevTold (ds : List Dev) (ls : List LinkV) (k i : Nat) (d : Dev) (Dn : PoK → Nat → Prop) : PoK → Nat → Prop := fun x c =>
  Dn x c ∨ ∃ o : Nat, peerF ls ((i : Int), (o : Int)) = some x ∧ Tells d (peerF ls ((i : Int), 1)).isSome (fun q c => inS ds ls k ((i : Int), (q : Int)) c) o (c / 1024) (c / 64 % 16) (c / 8 % 8) (c % 8)
theorem DnAt.told {ds : List Dev} {ls : List LinkV} {k i : Nat} {d : Dev} {Dn : PoK → Nat → Prop} (hd : DevOk d) {P : Nat} (hP : (P : Int) = portsF d.kind) (x : PoK) (c : Nat) (hc : c < 16384) :
    DnAt ls i (fun q c => inS ds ls k ((i : Int), (q : Int)) c) (Tp d (peerF ls ((i : Int), 1)).isSome (fun q c => inS ds ls k ((i : Int), (q : Int)) c)) Dn P 0 x c ↔ DevTold ds ls k i d Dn x c := by
  unfold DnAt DevTold
  refine or_congr Iff.rfl ?_
  have e : (portsF d.kind).toNat = P := by omega
  constructor
  · rintro ⟨port, c1, h1, h2, h3, o, h4, h5⟩
    exact ⟨o, h5, (tp_iff hd hc).1 ⟨port, c1, by omega, h2, h3, h4⟩⟩
  · rintro ⟨o, h5, h6⟩
    obtain ⟨port, c1, h1, h2, h3, h4⟩ := (tp_iff hd hc).2 h6
    exact ⟨port, c1, .inl (by omega), h2, h3, o, h4, h5⟩
theorem KC.setFar {C : Nat → Prop} {w wr : World} (h : KC C w wr) (a : Addr) (v : Value) (hw : w.heap.size ≤ a.block) : KC C w (wr.setCell a v) :=
  ⟨h.low.trans ((RowKit.Below.refl 0 wr).setCell (Nat.zero_le _) v), fun b hb hc => (RowKit.Below.heap_setCell wr a v b (by omega)).trans (h.same b hb hc)⟩
structure DW (E : SE) (w : World) (Dd : Nat) (cs : Array Value) (Dn : PoK → Nat → Prop) (wr : World) : Prop where
  sp : SP E Dn wr
  kc : KC E.C w wr
  bx : Bx wr Dd cs 81
  dd : E.N ≤ Dd
section
variable {E : SE} {w wr w' : World} {Dd : Nat} {cs : Array Value} {Dn Dn' : PoK → Nat → Prop}
theorem SP.sz (h : SP E Dn wr) : E.N ≤ wr.heap.size := by obtain ⟨T, more, h1, _⟩ := h; exact h1.sz
theorem DW.below (h : DW E w Dd cs Dn wr) (hE : E.Ok) (hb : RowKit.Below wr.heap.size wr w') : DW E w Dd cs Dn w' :=
  ⟨h.sp.up hE hb, h.kc.trans (KC.of_below hb), h.bx.below hb, h.dd⟩
theorem DW.notC (hE : E.Ok) {b : Nat} (hb : E.N ≤ b) : ¬ E.C b := fun hc => by have := (hE.cge b hc).2; omega
theorem DW.put (h : DW E w Dd cs Dn wr) (hE : E.Ok) (hs : SP E Dn' w') (hk : KC E.C wr w') : DW E w Dd cs Dn' w' :=
  ⟨hs, h.kc.trans hk, h.bx.kc hk (DW.notC hE h.dd), h.dd⟩
theorem DW.congr (h : DW E w Dd cs Dn wr) (e : ∀ x c, c < 16384 → (Dn x c ↔ Dn' x c)) : DW E w Dd cs Dn' wr := ⟨h.sp.congr e, h.kc, h.bx, h.dd⟩
theorem DW.set (h : DW E w Dd cs Dn wr) (hE : E.Ok) (a : Addr) (v : Value) (ha : E.N ≤ a.block) (hw : w.heap.size ≤ a.block) (hn : Dd ≠ a.block) : DW E w Dd cs Dn (wr.setCell a v) :=
  ⟨h.sp.below hE ((RowKit.Below.refl _ _).setCell ha v), h.kc.setFar a v hw, h.bx.far a v hn, h.dd⟩
theorem SP.net (h : SP E Dn wr) (hE : E.Ok) : NetAt wr wr.heap.size E.n := by
  obtain ⟨T, more, h1, _⟩ := h
  exact h1.net.below (RowKit.Below.refl _ _) (Nat.le_trans hE.BN h1.sz)
end
theorem peerV_form (r : Option Pl) : ∃ x y : Int, peerV r = .tuple #[.agg #[.int .i64 x, .int .i64 y], .bool r.isSome] := by
  cases r with
  | none => exact ⟨0, 0, rfl⟩
  | some x => exact ⟨x.1, x.2, rfl⟩
section
variable {d : Dev} {opn : Bool} {W : Nat → Nat → Bool} {p c o c' : Nat}
theorem tp_k2 (h : d.kind = 2) : Tp d opn W p c o c' ↔ TpR d c o c' := by simp [Tp, h]
theorem tp_k3 (h : d.kind = 3) : Tp d opn W p c o c' ↔ TpF d opn W p c o c' := by simp [Tp, h]
theorem tp_k4 (h : d.kind = 4) : Tp d opn W p c o c' ↔ TpN d opn W p c o c' := by simp [Tp, h]
theorem tp_k5 (h : d.kind = 5) : Tp d opn W p c o c' ↔ TpB d opn W p c o c' := by simp [Tp, h]
theorem pk_of {c a b s t : Nat} (h1 : c / 1024 = a) (h2 : c / 64 % 16 = b) (h3 : c / 8 % 8 = s) (h4 : c % 8 = t) : pk c = ⟨(a : Int), (b : Int), (s : Int), (t : Int)⟩ := by
  subst h1 h2 h3 h4
  rfl
end
theorem backR_walk (a b c d : Int) (W : World) : Calls Tryz.prog 67 #[.agg #[.int .i64 a, .int .i64 b, .int .i64 c, .int .i64 d]] W fun e W' => e = .returned (.agg #[.int .i64 b, .int .i64 a, .int .i64 d, .int .i64 c]) ∧ RowKit.Below W.heap.size W W' := by
  have hb : RowKit.Below W.heap.size W (((W.alloc (.cells #[.int .i64 a, .int .i64 b, .int .i64 c, .int .i64 d] 29)).alloc (.cells #[.int .i64 b, .int .i64 a, .int .i64 d, .int .i64 c] 29))) := ((RowKit.Below.refl _ _).alloc (Nat.le_refl _) _).alloc (by simp) _
  have hx := cells4c (heap_alloc_new (W.alloc (.cells #[.int .i64 a, .int .i64 b, .int .i64 c, .int .i64 d] 29)) (.cells #[.int .i64 b, .int .i64 a, .int .i64 d, .int .i64 c] 29))
  have HB := hide hb
  have hs : (W.alloc (.cells #[.int .i64 a, .int .i64 b, .int .i64 c, .int .i64 d] 29)).heap.size = W.heap.size + 1 := by simp
  rw [hs] at hx
  clear hb hs
  go_enter Tryz.func67, Tryz.ntmps67
  go_wp2
  obtain ⟨z0, z1, z2, z3⟩ := hx
  generalize World.alloc (World.alloc W _) _ = W2 at *
  refine bodyPost_ret (v := .agg #[.int .i64 b, .int .i64 a, .int .i64 d, .int .i64 c]) (by simp [results, Tryz.f67, go_sem, z0, z1, z2, z3]) rfl ⟨rfl, HB.out⟩
theorem dev_host (E : SE) (hE : E.Ok) (w : World) (Dn : PoK → Nat → Prop) (h : SP E Dn w) (i : Nat) (d : DevV) (hd : E.n.ds[i]? = some d) (hok : DevOk d.dev) (hPD : ∀ p : Nat, (p : Int) < portsF d.kind → E.D ((i : Int), (p : Int))) (hkd : d.kind = 1) :
    Calls Tryz.prog 34 #[.pointer (some ⟨E.s, 0, none⟩), .agg #[.slice E.n.dA E.n.dn E.n.dc, .slice E.n.lA E.n.ln E.n.lc], .int .i64 (i : Int), .int .i64 (E.k : Int), .func (.func 32) #[] #[.pointer (some ⟨E.nA, 0, none⟩), .pointer (some ⟨E.pS, 0, none⟩), .pointer (some ⟨E.kA, 0, none⟩), .pointer (some ⟨E.mA, 0, none⟩)]] w fun e w' => e = .returned (.tuple #[]) ∧ SP E (DevTold E.n.devs E.n.ls E.k i d.dev Dn) w' ∧ KC E.C w w' := by
  have hn9 : E.n.ln ≤ 9223372036854775807 := by have := hE.ln; have := (h.net hE).ls.1; omega
  have HE := hide hE
  have HS := hide h
  have HPD := hide hPD
  have hnet := h.net hE
  have hil : i < E.n.dn := by have := (List.getElem?_eq_some_iff.1 hd).1; have := hnet.dlen; omega
  have hdl := hnet.cd
  have HDA := hide (fun (w' : World) (Dn' : PoK → Nat → Prop) (h' : SP E Dn' w') => show DevAt w' w'.heap.size d from (h'.net hE).dok d (List.mem_of_getElem? hd))
  obtain ⟨db, dof, hdA, hdb, _⟩ := hnet.ds.2 (by omega)
  have HQ := hide (fun (w' : World) (hb : RowKit.Below w.heap.size w w') => (dev_get (hdA ▸ ((h.up hE hb).net hE).ds) hd).2)
  have HPE := hide (fun (w1 : World) (hb : RowKit.Below w.heap.size w w1) => refPeer_any E.n.dA E.n.dn E.n.dc E.n.lA E.n.ln E.n.lc E.n.ls (i : Int) 1 w1 hn9 (((h.up hE hb).net hE).ls))
  obtain ⟨px, py, hpv⟩ := peerV_form (peerF E.n.ls ((i : Int), 1))
  simp only [hpv] at HPE
  have HOK := hide hok
  have HDI := hide hd
  have HB1 := hide (fun (o : Obj) => below_alloc2 w o)
  have HB2 := hide (fun (o o' : Obj) => show RowKit.Below w.heap.size w ((w.alloc o).alloc o') from (below_alloc2 w o).trans ((below_alloc2 (w.alloc o) o').mono (below_alloc2 w o).size))
  rw [hdA] at HPE ⊢
  have HDAE := hide hdA
  have hdn : E.n.dn ≤ maxLen := by omega
  have HDN := hide hdl
  clear h hE hPD hnet hd hok hdb hpv hdA hdl
  obtain ⟨nm, kd, ad, pl, bA, bn, bc, bs, rA, rn, rc, rs, tA, tn, tc, ts⟩ := d
  simp only at hkd HQ
  subst hkd
  have q0 := fun o => (HQ.out _ (HB1.out o)).1
  have q1 := fun o => (HQ.out _ (HB1.out o)).2.1
  have q2 := fun o => (HQ.out _ (HB1.out o)).2.2.1
  have q3 := fun o => (HQ.out _ (HB1.out o)).2.2.2.1
  have q4 := fun o => (HQ.out _ (HB1.out o)).2.2.2.2.1
  have q5 := fun o => (HQ.out _ (HB1.out o)).2.2.2.2.2.1
  have q6 := fun o => (HQ.out _ (HB1.out o)).2.2.2.2.2.2
  obtain ⟨opn, hopn⟩ : ∃ opn, (peerF E.n.ls ((i : Int), 1)).isSome = opn := ⟨_, rfl⟩
  rw [hopn] at HPE
  have HOP := hide hopn
  clear hopn
  go_enter Tryz.func34, Tryz.ntmps34
  go_wp2_with fail
  clear q0 q1 q2 q3 q4 q5 q6
  obtain ⟨cs, hcs⟩ : ∃ cs : Array Value, #[.string nm, .int .i64 1, .int .i64 ad, .int .u8 pl, .slice bA bn bc, .slice rA rn rc, .slice tA tn tc] = cs := ⟨_, rfl⟩
  have HCS := hide (show cs[1]? = some (.int .i64 1) ∧ cs[2]? = some (.int .i64 ad) ∧ cs[3]? = some (.int .u8 pl) ∧ cs[4]? = some (.slice bA bn bc) ∧ cs[5]? = some (.slice rA rn rc) ∧ cs[6]? = some (.slice tA tn tc) ∧ cs[0]? = some (.string nm) from by rw [← hcs]; exact ⟨rfl, rfl, rfl, rfl, rfl, rfl, rfl⟩)
  try simp only [hcs]
  have HCE := hide hcs
  clear hcs
  have HD0 := hide (show DW E w (w.heap.size + 1) cs Dn ((w.alloc (.cells #[.slice (some ⟨db, dof, none⟩) E.n.dn E.n.dc, .slice E.n.lA E.n.ln E.n.lc] 25)).alloc (.cells cs 81)) from
    ⟨HS.out.up HE.out (HB2.out _ _), KC.of_below (HB2.out _ _), by
      have := Bx.new (w.alloc (.cells #[.slice (some ⟨db, dof, none⟩) E.n.dn E.n.dc, .slice E.n.lA E.n.ln E.n.lc] 25)) cs 81
      simpa using this, by have := HS.out.sz; omega⟩)
  have HBB := hide (HB2.out (.cells #[.slice (some ⟨db, dof, none⟩) E.n.dn E.n.dc, .slice E.n.lA E.n.ln E.n.lc] 25) (.cells cs 81))
  generalize World.alloc (World.alloc w _) _ = w2 at *
  refine (HPE.out _ HBB.out).mono ?_
  clear HPE
  rintro en w3 ⟨rfl, hb3⟩
  have HD3 := hide (HD0.out.below HE.out hb3)
  clear hb3 HD0 HBB HQ HB1 HB2
  go_wp2_with fail
  have HD2 := hide (HD3.out.below HE.out (below_alloc2 w3 (.cells #[.int .i64 px, .int .i64 py] 27)))
  clear HD3
  generalize World.alloc w3 _ = w4 at *
  obtain ⟨Dd, hDd⟩ : ∃ Dd, w.heap.size + 1 = Dd := ⟨_, rfl⟩
  rw [hDd] at HD2 ⊢
  have HDL := hide (show w.heap.size ≤ Dd from by omega)
  clear hDd
  obtain ⟨WS, hWS⟩ : ∃ WS : Nat → Nat → Bool, (fun (q c : Nat) => inS E.n.devs E.n.ls E.k ((i : Int), (q : Int)) c) = WS := ⟨_, rfl⟩
  have HWAS := hide (fun (wr : World) (Dn' : PoK → Nat → Prop) (p c : Nat) (hp : (p : Int) < portsF 1) (hc : c < 16384) (h : SP E Dn' wr) => show Calls Tryz.prog 64 #[.pointer (some ⟨E.s, 0, none⟩), .int .i64 i, .int .i64 (p : Int), .int .i64 (c : Int), .int .i64 (E.k : Int)] wr (fun e w' => e = .returned (.bool (WS p c)) ∧ wr = w') from by
    have := was_sp E HE.out wr Dn' h i p (HPD.out p hp) c hc
    rw [← hWS]
    exact this)
  obtain ⟨TS, hTS⟩ : ∃ TS, Tp (DevV.dev ⟨nm, 1, ad, pl, bA, bn, bc, bs, rA, rn, rc, rs, tA, tn, tc, ts⟩) opn WS = TS := ⟨_, rfl⟩
  have HTS := hide hTS
  have HTT := hide (fun (x : PoK) (c : Nat) (hc : c < 16384) => show DnAt E.n.ls i WS TS Dn 1 0 x c ↔ DevTold E.n.devs E.n.ls E.k i (DevV.dev ⟨nm, 1, ad, pl, bA, bn, bc, bs, rA, rn, rc, rs, tA, tn, tc, ts⟩) Dn x c from by
    rw [← hTS, ← hWS, ← HOP.out]
    exact DnAt.told HOK.out (P := 1) (by rfl) x c hc)
  have HWE := hide (fun (p c : Nat) => show WS p c = inS E.n.devs E.n.ls E.k ((i : Int), (p : Int)) c from by rw [← hWS])
  clear hWS hTS
  go_loopw [14] (fun iv wr => iv = .int .i64 0 ∧ Hid (DW E w Dd cs Dn wr)) (fun _ _ => 0)
  case atStart => exact ⟨rfl, HD2⟩
  case round =>
    clear HD2
    obtain ⟨rfl, HD1⟩ := hrel
    have d1 : wr.cell? ⟨Dd, 1, none⟩ = some (.int .i64 1) := HD1.out.bx.get 1 _ HCS.out.1
    go_wp2_with fail
    clear d1
    go_loopw [17] (fun iv wr => ∃ p : Nat, p ≤ 1 ∧ iv = .int .i64 (p : Int) ∧ Hid (DW E w Dd cs (DnAt E.n.ls i WS TS Dn p 0) wr)) (fun iv _ => 1 - (intOf iv).toNat)
    case atStart => exact ⟨0, by omega, rfl, hide (HD1.out.congr (fun x c _ => DnAt.zero x c))⟩
    case round =>
      clear HD1
      obtain ⟨p, hp, rfl, HD⟩ := hrel
      have HPO := hide (refPorts_walk 1 wr)
      rw [show portsF 1 = 1 from rfl] at HPO
      have d1 : wr.cell? ⟨Dd, 1, none⟩ = some (.int .i64 1) := HD.out.bx.get 1 _ HCS.out.1
      go_wp2_with fail
      refine HPO.out.mono ?_
      clear HPO d1
      rintro e w3 ⟨rfl, hb⟩
      have HD3 := hide (HD.out.below HE.out hb)
      clear hb HD
      by_cases hpl : p < 1
      case neg =>
        obtain rfl : p = 1 := by omega
        go_wp2
        go_end0
        exact ⟨rfl, HD3.out.sp.congr (fun x c hc => HTT.out x c hc), HD3.out.kc⟩
      case pos =>
        have hpi : (p : Int) < 1 := by omega
        go_wp2_with fail
        try simp only [hpi, decide_true]
        go_loopw [18] (fun cv wr => ∃ c : Nat, c ≤ 16384 ∧ cv = .int .i64 (c : Int) ∧ Hid (DW E w Dd cs (DnAt E.n.ls i WS TS Dn p c) wr)) (fun cv _ => 16384 - (intOf cv).toNat)
        case atStart => exact ⟨0, by omega, rfl, HD3⟩
        case round =>
          clear HD3
          obtain ⟨c, hc, rfl, HD⟩ := hrel
          by_cases hcl : c < 16384
          case neg =>
            obtain rfl : c = 16384 := by omega
            go_wp2
            go_roundw
            case rel => exact ⟨p + 1, by omega, by go_num, hide (HD.out.congr (fun x c _ => DnAt.row x c))⟩
            case measure => simp [intOf]; omega
          case pos =>
            have HWA := hide (HWAS.out wr _ p c (by rw [show portsF 1 = 1 from rfl]; omega) hcl HD.out.sp)
            obtain ⟨B, hB⟩ : ∃ B, WS p c = B := ⟨_, rfl⟩
            rw [hB] at HWA
            have HWB := hide hB
            clear hB
            go_wp2_with fail
            refine HWA.out.mono ?_
            clear HWA
            rintro e w4 ⟨rfl, rfl⟩
            cases B
            case false =>
              go_wp2
              go_roundw
              case rel => exact ⟨c + 1, by omega, by go_num, hide (HD.out.congr (fun x c _ => DnAt.no HWB.out x c))⟩
              case measure => simp [intOf]; omega
            case true =>
              have HPK := hide (packet_walk wr c hcl)
              go_wp2_with fail
              refine HPK.out.mono ?_
              clear HPK
              rintro e w4 ⟨rfl, hb⟩
              have HD4 := hide (HD.out.below HE.out hb)
              have HZ4 := hide hb.size
              clear hb HD
              simp only [packVal]
              obtain ⟨a, ha⟩ : ∃ a, c / 1024 = a := ⟨_, rfl⟩
              obtain ⟨b, hb⟩ : ∃ b, c / 64 % 16 = b := ⟨_, rfl⟩
              obtain ⟨s, hs⟩ : ∃ s, c / 8 % 8 = s := ⟨_, rfl⟩
              obtain ⟨t, ht⟩ : ∃ t, c % 8 = t := ⟨_, rfl⟩
              have HF := hide (show Fld a b s t ∧ code4 a b s t = c from by have := fld_of hcl; rw [ha, hb, hs, ht] at this; exact this)
              rw [ha, hb, hs, ht]
              have HFA := hide (And.intro ha (And.intro hb (And.intro hs ht)))
              clear ha hb hs ht
              have d1 : ∀ o, (w4.alloc o).cell? ⟨Dd, 1, none⟩ = some (.int .i64 1) := fun o => (HD4.out.below HE.out (below_alloc2 w4 o)).bx.get 1 _ HCS.out.1
              have d2 : ∀ o, (w4.alloc o).cell? ⟨Dd, 2, none⟩ = some (.int .i64 ad) := fun o => (HD4.out.below HE.out (below_alloc2 w4 o)).bx.get 2 _ HCS.out.2.1
              have d3 : ∀ o, (w4.alloc o).cell? ⟨Dd, 3, none⟩ = some (.int .u8 pl) := fun o => (HD4.out.below HE.out (below_alloc2 w4 o)).bx.get 3 _ HCS.out.2.2.1
              have d5 : ∀ o, (w4.alloc o).cell? ⟨Dd, 5, none⟩ = some (.slice rA rn rc) := fun o => (HD4.out.below HE.out (below_alloc2 w4 o)).bx.get 5 _ HCS.out.2.2.2.2.1
              have d6 : ∀ o, (w4.alloc o).cell? ⟨Dd, 6, none⟩ = some (.slice tA tn tc) := fun o => (HD4.out.below HE.out (below_alloc2 w4 o)).bx.get 6 _ HCS.out.2.2.2.2.2.1
              go_wp2_with fail
              clear d1 d2 d3 d5 d6
              go_roundw
              case rel => exact ⟨c + 1, by omega, by go_num, hide ((HD4.out.below HE.out (below_alloc2 w4 _)).congr (fun x c' _ => DnAt.none_ HWB.out hcl (fun o c' h => by rw [← HTS.out] at h; rcases h with ⟨h, _⟩ | ⟨h, _⟩ | ⟨h, _⟩ | ⟨h, _⟩ <;> exact absurd (show (1 : Int) = _ from h) (by decide)) x c'))⟩
              case measure => simp [intOf]; omega
end Go.Proofs.YtifkacnoiocebaaGreat
