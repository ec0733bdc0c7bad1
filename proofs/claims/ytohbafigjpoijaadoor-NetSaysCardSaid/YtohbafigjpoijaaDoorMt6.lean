/- match.of, match.Parse. -/
import Derived.Test.YtohbafigjpoijaaDoorMt5
set_option linter.unusedVariables false
set_option linter.unusedSimpArgs false
set_option maxRecDepth 100000
set_option maxHeartbeats 8000000
namespace Go.Proofs.YtohbafigjpoijaaDoor
open Go.RowKit

theorem wrapU8 (y : Nat) (h : y < 256) : IntKind.u8.wrap (y : Int) = (y : Int) := by
  simp [IntKind.wrap, IntKind.signed, IntKind.bits]; omega
theorem of4_walk (x y z u g cap : Nat) (W : World) (hy : y < 256) (hu : u < 256) (hg : g < W.heap.size)
    (c0 : W.cell? ⟨g, 0, none⟩ = some (.int .u16 (x : Int))) (c1 : W.cell? ⟨g, 1, none⟩ = some (.int .u16 (y : Int))) (c2 : W.cell? ⟨g, 2, none⟩ = some (.int .u16 (z : Int))) (c3 : W.cell? ⟨g, 3, none⟩ = some (.int .u16 (u : Int))) :
    Calls Tryd.prog 51 #[.slice (some ⟨g, 0, none⟩) 4 cap] W fun e W' => e = .returned (.agg #[.int .u16 (x : Int), .int .u16 (z : Int), .int .u8 (y : Int), .int .u8 (u : Int)]) ∧ Below W.heap.size W W' := by
  have hb0 := (Below.refl W.heap.size W).alloc (Nat.le_refl _) (.cells #[.int .u16 0, .int .u16 0, .int .u8 0, .int .u8 0] 42)
  have hx := heap_alloc_new W (.cells #[.int .u16 0, .int .u16 0, .int .u8 0, .int .u8 0] 42)
  obtain ⟨z0, z1, z2, z3, z4, z5, z6, z7⟩ := cells4f hx
  have d0 := (hb0.cell (p := ⟨g, 0, none⟩) hg).trans c0
  have d1 := (hb0.cell (p := ⟨g, 1, none⟩) hg).trans c1
  have d2 := (hb0.cell (p := ⟨g, 2, none⟩) hg).trans c2
  have d3 := (hb0.cell (p := ⟨g, 3, none⟩) hg).trans c3
  have w1 := wrapU8 y hy
  have w2 := wrapU8 u hu
  have HB := hide hb0
  clear c0 c1 c2 c3 hx hb0
  go_enter Tryd.func51, Tryd.ntmps51
  go_wp2_with fail
  generalize W.alloc (.cells #[.int .u16 0, .int .u16 0, .int .u8 0, .int .u8 0] 42) = w1 at *
  go_region
  go_wp2
  refine bodyPost_ret (v := .agg #[.int .u16 (x : Int), .int .u16 (z : Int), .int .u8 (y : Int), .int .u8 (u : Int)]) (by simp [results, Tryd.f51, go_sem, z0, z1, z2, z3]) rfl ⟨rfl, ?_⟩
  exact ((((HB.out.drew).setCell (Nat.le_refl _) _).setCell (Nat.le_refl _) _).setCell (Nat.le_refl _) _).setCell (Nat.le_refl _) _
theorem Tryd.infoUint16 : (Tryd.prog.info? 40).map (fun i => (i.zero, i.size, i.bytes)) = some (some (.int .u16 0), 1, 2) := by kernel_rfl
theorem readAny_walk {k : Nat} {x : PartV} (h : (partL 0 0 0 0)[k]? = some x) (l : List UInt8) (W : World) (hs : l.length ≤ 1048576) (hm : MaxAt W) :
    Calls Tryd.prog 50 #[.string ⟨l.toArray⟩, .int .i64 (x.bits : Int)] W fun e W' => e = .returned (readV (readF l (2 ^ x.bits))) ∧ Below W.heap.size W W' := by
  match k, h with
  | 0, h => cases h; exact read16_walk l W hs hm
  | 1, h => cases h; exact read8_walk l W hs hm
  | 2, h => cases h; exact read16_walk l W hs hm
  | 3, h => cases h; exact read8_walk l W hs hm
  | k + 4, h => simp [partL] at h
def v16 (x : Nat) : Value := .int .u16 (x : Int)
/-- The first k texts, read. -/
structure RdN (ps : List (List UInt8)) (k : Nat) (vals : List Nat) : Prop where
  len : vals.length = k
  all : ∀ (j x : Nat), vals[j]? = some x → ∃ (r : List UInt8) (p : PartV), ps[j]? = some r ∧ (partL 0 0 0 0)[j]? = some p ∧ readF r (2 ^ p.bits) = some x
theorem RdN.snoc {ps : List (List UInt8)} {k x : Nat} {vals : List Nat} {r : List UInt8} {p : PartV} (h : RdN ps k vals) (hr : ps[k]? = some r) (hp : (partL 0 0 0 0)[k]? = some p) (hx : readF r (2 ^ p.bits) = some x) : RdN ps (k + 1) (vals ++ [x]) := by
  refine ⟨by simp [h.len], fun j y hy => ?_⟩
  rw [List.getElem?_append] at hy
  split at hy
  · exact h.all j y hy
  · rename_i hj
    have : j = k := by
      rw [h.len] at hj hy
      have := (List.getElem?_eq_some_iff.1 hy).1
      simp at this; omega
    subst this
    rw [h.len] at hy
    simp at hy
    subst hy
    exact ⟨r, p, hr, hp, hx⟩
theorem RdN.done {l : List UInt8} {vals : List Nat} (h : RdN (pieces 32 l) 4 vals) (h4 : (pieces 32 l).length = 4) (hl : ¬ 300 < l.length) : ∃ x y z u, vals = [x, y, z, u] ∧ parseM l = (⟨x, z, y, u⟩, 0) ∧ y < 256 ∧ u < 256 := by
  obtain ⟨hlen, hall⟩ := h
  match vals, hlen with
  | [x, y, z, u], _ =>
    obtain ⟨a, pa, ha, hpa, h0⟩ := hall 0 x rfl
    obtain ⟨b, pb, hb, hpb, h1⟩ := hall 1 y rfl
    obtain ⟨c, pc, hc, hpc, h2⟩ := hall 2 z rfl
    obtain ⟨d, pd, hd, hpd, h3⟩ := hall 3 u rfl
    cases hpa; cases hpb; cases hpc; cases hpd
    match hq : pieces 32 l, h4 with
    | [a', b', c', d'], _ =>
      rw [hq] at ha hb hc hd
      cases ha; cases hb; cases hc; cases hd
      have e0 : readF a 16 = some x := h0
      have e1 : readF b 8 = some y := h1
      have e2 : readF c 16 = some z := h2
      have e3 : readF d 8 = some u := h3
      exact ⟨x, y, z, u, rfl, by simp [parseM, hl, hq, e0, e1, e2, e3], read_lt (by omega) e1, read_lt (by omega) e3⟩
theorem parseM_none {l r : List UInt8} {p : PartV} {k : Nat} (h4 : (pieces 32 l).length = 4) (hl : ¬ 300 < l.length) (hr : (pieces 32 l)[k]? = some r) (hp : (partL 0 0 0 0)[k]? = some p) (hn : readF r (2 ^ p.bits) = none) : parseM l = (⟨0, 0, 0, 0⟩, 3) := by
  match hq : pieces 32 l, h4 with
  | [a, b, c, d], _ =>
    rw [hq] at hr
    match k, hr, hp with
    | 0, hr, hp => cases hr; cases hp; have e : readF r 16 = none := hn; simp [parseM, hl, hq, e]
    | 1, hr, hp => cases hr; cases hp; have e : readF r 8 = none := hn; simp [parseM, hl, hq, e]
    | 2, hr, hp => cases hr; cases hp; have e : readF r 16 = none := hn; simp [parseM, hl, hq, e]
    | 3, hr, hp => cases hr; cases hp; have e : readF r 8 = none := hn; simp [parseM, hl, hq, e]
    | k + 4, hr, hp => simp [partL] at hp
theorem parseM_long {l : List UInt8} (h : 300 < l.length) : parseM l = (⟨0, 0, 0, 0⟩, 2) := by rw [parseM, if_pos h]
theorem parseM_not {l : List UInt8} (h : ¬ 300 < l.length) (h4 : (pieces 32 l).length ≠ 4) : parseM l = (⟨0, 0, 0, 0⟩, 3) := by
  rw [parseM, if_neg h]
  split
  · rename_i e; rw [e] at h4; exact absurd rfl h4
  · rfl
def parseMV (l : List UInt8) : Value := .tuple #[.agg #[.int .u16 ((parseM l).1.src : Int), .int .u16 ((parseM l).1.dst : Int), .int .u8 ((parseM l).1.sport : Int), .int .u8 ((parseM l).1.dport : Int)], .int .i64 (parseM l).2]

theorem matchParse_walk (l : List UInt8) (W : World) (hsz : l.length ≤ 9223372036854775807) (hm : MaxAt W) :
    Calls Tryd.prog 22 #[.string ⟨l.toArray⟩] W fun e W' => e = .returned (parseMV l) ∧ Below W.heap.size W W' := by
  obtain ⟨i0, hi0, hz0, hz1, hz2⟩ := info_parts Tryd.infoUint16
  have hb0 := (Below.refl W.heap.size W).alloc (Nat.le_refl _) (.cells #[.int .u16 0, .int .u16 0, .int .u8 0, .int .u8 0] 42)
  have hx := heap_alloc_new W (.cells #[.int .u16 0, .int .u16 0, .int .u8 0, .int .u8 0] 42)
  by_cases hl : 300 < l.length
  · have HOUT := hide (show parseMV l = .tuple #[.agg #[.int .u16 0, .int .u16 0, .int .u8 0, .int .u8 0], .int .i64 2] from by rw [parseMV, parseM_long hl]; rfl)
    obtain ⟨n, hn⟩ : ∃ n, l.length = n := ⟨_, rfl⟩
    have hsize : (⟨l.toArray⟩ : ByteArray).size = n := by rw [← hn]; exact List.size_toArray
    rw [hn] at hl hsz
    have HBO := hide hb0
    obtain ⟨z0, z1, z2, z3, z4, z5, z6, z7⟩ := cells4f hx
    clear hn hx hb0
    generalize (⟨l.toArray⟩ : ByteArray) = s at *
    go_enter Tryd.func22, Tryd.ntmps22
    go_wp2
    refine bodyPost_ret (v := .tuple #[.agg #[.int .u16 0, .int .u16 0, .int .u8 0, .int .u8 0], .int .i64 2]) (by simp [results, Tryd.f22, go_sem, z0, z1, z2, z3]) rfl ⟨by rw [HOUT.out], ?_⟩
    first
      | exact HBO.out
      | exact (((HBO.out.setCell (Nat.le_refl _) _).setCell (Nat.le_refl _) _).setCell (Nat.le_refl _) _).setCell (Nat.le_refl _) _
  have HM := hide (hm.below hb0)
  have hs : l.length ≤ 1048576 := by omega
  have HSP := hide (fun w (h : MaxAt w) => split_walk l 32 w hs h)
  have HPA := hide (fun w => show Calls Tryd.prog 49 #[.agg #[.int .u16 0, .int .u16 0, .int .u8 0, .int .u8 0]] w (fun e W' => e = .returned (.slice (some ⟨w.heap.size + 1, 0, none⟩) 4 4) ∧ ∃ o0, W' = (w.alloc o0).alloc (.cells (partBox 0 0 0 0) 90)) from parts_walk w 0 0 0 0 (by omega) (by omega) (by omega) (by omega))
  have hle : decide (300 < l.length) = false := decide_eq_false hl
  have hszl : (⟨l.toArray⟩ : ByteArray).size = l.length := List.size_toArray
  obtain ⟨nl, hnl⟩ : ∃ nl, l.length = nl := ⟨_, rfl⟩
  obtain ⟨s, hss⟩ : ∃ s : ByteArray, ⟨l.toArray⟩ = s := ⟨_, rfl⟩
  have HDN := hide (fun h4 vals (h : RdN (pieces 32 l) 4 vals) => h.done h4 hl)
  have HNO := hide (fun h4 k r p hr hp hn => parseM_none (l := l) (k := k) (r := r) (p := p) h4 hl hr hp hn)
  have HN4 := hide (fun h4 => parseM_not (l := l) hl h4)
  have hpe := pieces_each 32 l
  obtain ⟨ps, hps⟩ : ∃ ps, pieces 32 l = ps := ⟨_, rfl⟩
  obtain ⟨n, hn⟩ : ∃ n, ps.length = n := ⟨_, rfl⟩
  have hpl := pieces_len 32 l
  simp only [hss] at hszl HSP ⊢
  rw [hps] at HSP HDN HNO HN4 hpe hpl
  rw [hn] at HSP HDN HNO HN4 hpl
  rw [hnl] at hszl hle hl hs hpl hpe
  have HPE := hide hpe
  clear hpe hsz hm
  have hn63 : n ≤ 1048577 := by omega
  go_enter Tryd.func22, Tryd.ntmps22
  go_wp2_with fail
  generalize W.alloc (.cells #[.int .u16 0, .int .u16 0, .int .u8 0, .int .u8 0] 42) = w1 at *
  refine (HSP.out _ HM.out).mono ?_
  rintro e w2 ⟨rfl, hst, hb2⟩
  have HM2 := hide (HM.out.below hb2)
  have hx2 := (hb2.block W.heap.size (heap_lt hx)).trans hx
  have HB2 := hide (hb0.trans (hb2.mono hb0.size))
  have hw1 : W.heap.size < w1.heap.size := heap_lt hx
  have HST := hide hst
  clear hx hb0 hst hb2 HSP HM
  generalize w1.heap.size = g at *
  by_cases h4 : n = 4
  case neg =>
    have HOUT := hide (show parseMV l = .tuple #[.agg #[.int .u16 0, .int .u16 0, .int .u8 0, .int .u8 0], .int .i64 3] from by rw [parseMV, HN4.out h4]; rfl)
    have d1 : ((n : Int) == 4) = false := by simp; omega
    have d2 : ((n : Int) != 4) = true := by simp; omega
    have HBO := HB2
    obtain ⟨z0, z1, z2, z3, z4, z5, z6, z7⟩ := cells4f hx2
    clear hx2 HDN HNO HN4 HST
    go_wp2
    refine bodyPost_ret (v := .tuple #[.agg #[.int .u16 0, .int .u16 0, .int .u8 0, .int .u8 0], .int .i64 3]) (by simp [results, Tryd.f22, go_sem, z0, z1, z2, z3]) rfl ⟨by rw [HOUT.out], ?_⟩
    first
      | exact HBO.out
      | exact (((HBO.out.setCell (Nat.le_refl _) _).setCell (Nat.le_refl _) _).setCell (Nat.le_refl _) _).setCell (Nat.le_refl _) _
  case pos =>
  subst h4
  have HX2 := hide hx2
  clear hx2 HN4
  go_wp2_with fail
  refine (HPA.out w2).mono ?_
  rintro e w3 ⟨rfl, o0, hw3⟩
  have hpb : w3.heap[w2.heap.size + 1]? = some (.cells (partBox 0 0 0 0) 90) := by
    rw [hw3]
    have := heap_alloc_new (w2.alloc o0) (.cells (partBox 0 0 0 0) 90)
    rwa [show (w2.alloc o0).heap.size = w2.heap.size + 1 by simp] at this
  have hb23 : Below w2.heap.size w2 w3 := by
    rw [hw3]; exact ((Below.refl _ _).alloc (Nat.le_refl _) o0).alloc (by simp) _
  have hsz3 : w3.heap.size = w2.heap.size + 2 := by rw [hw3]; simp
  have HPB := hide hpb
  have HST3 := hide (HST.out.below hb23)
  have HM3 := hide (HM2.out.below hb23)
  have HX3 := hide ((hb23.block W.heap.size (heap_lt HX2.out)).trans HX2.out)
  have HB3 := hide (HB2.out.trans (hb23.mono HB2.out.size))
  have HG3 := hide (HST3.out.lt.2)
  clear hpb hw3 HPA HB2 HST HM2 HX2 hb23
  generalize hN : w2.heap.size + 1 = Np at *
  have HNP := hide (show Np < w3.heap.size by omega)
  clear hsz3 hN
  go_wp2_with fail
  go_loopw [5, 23] (fun v i wr => ∃ (k : Nat) (vals : List Nat), k ≤ 4 ∧ i = .int .i64 (k : Int) ∧ Hid (RdN ps k vals) ∧ Hid (wr.ownsRow w3.heap.size 40 1 v k (vals.map v16)) ∧ Hid (Below w3.heap.size w3 wr)) (fun _ i _ => 4 - (intOf i).toNat)
  case atStart => exact ⟨0, [], by omega, rfl, hide ⟨rfl, by simp⟩, hide (World.ownsRow_nil _ _ _ _), hide (Below.refl _ _)⟩
  case round =>
    obtain ⟨k, vals, hk, rfl, HRN, HO, HBW⟩ := hrel
    by_cases hlt : k < 4
    case pos =>
      obtain ⟨x, hx, hxs, hxb, hxf, g0, g1, g2⟩ := part_get 0 0 0 0 k (by omega) (by omega) (by omega) (by omega) hlt
      obtain ⟨r, hr⟩ : ∃ r, ps[k]? = some r := ⟨_, List.getElem?_eq_getElem (by omega)⟩
      have hpb := (HBW.out.block Np HNP.out).trans HPB.out
      have y0 : wr.cell? ⟨Np, k * 3, none⟩ = some (.int .u16 x.set) := by rw [cell_of_row _ _ _ _ _ _ hpb]; exact g0
      have y1 : wr.cell? ⟨Np, k * 3 + 1, none⟩ = some (.int .i64 x.bits) := by rw [cell_of_row _ _ _ _ _ _ hpb]; exact g1
      have y2 : wr.cell? ⟨Np, k * 3 + 2, none⟩ = some (.int .i64 x.first) := by rw [cell_of_row _ _ _ _ _ _ hpb]; exact g2
      have hrl := HPE.out r (List.mem_of_getElem? hr)
      have HRC := hide (fun w (h : Below w3.heap.size w3 w) => readAny_walk hx r w (by omega) (HM3.out.below h))
      have HNOk := hide (fun hn => HNO.out trivial k r x hr hx hn)
      have HSN := hide (fun y (hy : readF r (2 ^ x.bits) = some y) => HRN.out.snoc hr hx hy)
      have c0 := (HST3.out.below HBW.out).get hr
      have hvl := HRN.out.len
      obtain ⟨R, hR⟩ : ∃ R, readF r (2 ^ x.bits) = R := ⟨_, rfl⟩
      have HRL := hide (fun y (hy : R = some y) => show y < 65536 from Nat.lt_of_lt_of_le (read_lt (Nat.two_pow_pos _) (hR.trans hy)) (Nat.pow_le_pow_right (by omega) (show 2 ^ x.bits ≤ 2 ^ 4 from Nat.pow_le_pow_right (by omega) hxb)))
      rw [hR] at HRC HNOk HSN
      have hltI : (k : Int) < 4 := by omega
      clear hx hxs hxb hxf g0 g1 g2 hpb hR hr HRN hrl
      generalize x.set = xs at *
      generalize x.bits = xb at *
      generalize x.first = xf at *
      have hbz := HBW.out.size
      have HO3 := hide (HO.out.alloc (.cells #[.int .u16 (xs : Int), .int .i64 (xb : Int), .int .i64 (xf : Int)] 90))
      have HB4 := hide (HBW.out.alloc hbz (.cells #[.int .u16 (xs : Int), .int .i64 (xb : Int), .int .i64 (xf : Int)] 90))
      obtain ⟨u0, u1, u2⟩ := cells3f (heap_alloc_new wr (.cells #[.int .u16 (xs : Int), .int .i64 (xb : Int), .int .i64 (xf : Int)] 90))
      have hcb := (((Below.refl wr.heap.size wr).alloc (Nat.le_refl _) (.cells #[.int .u16 (xs : Int), .int .i64 (xb : Int), .int .i64 (xf : Int)] 90)).cell (p := ⟨g, k, none⟩) (Nat.lt_of_lt_of_le HG3.out HBW.out.size)).trans c0
      have hub : wr.heap.size < (wr.alloc (.cells #[.int .u16 (xs : Int), .int .i64 (xb : Int), .int .i64 (xf : Int)] 90)).heap.size := by simp
      have hgb : g < (wr.alloc (.cells #[.int .u16 (xs : Int), .int .i64 (xb : Int), .int .i64 (xf : Int)] 90)).heap.size := Nat.lt_of_lt_of_le (Nat.lt_of_lt_of_le HG3.out HBW.out.size) (by simp)
      clear HO HBW
      go_wp2_with fail
      cases R with
      | none =>
        simp only [readV] at HRC
        have HOUT := hide (show parseMV l = .tuple #[.agg #[.int .u16 0, .int .u16 0, .int .u8 0, .int .u8 0], .int .i64 3] from by rw [parseMV, HNOk.out rfl]; rfl)
        refine wp_region_abs (by kernel_rfl) (by kernel_rfl) ?_
        intro T hT gt hg1 hgi
        have HGT := hide hg1
        have HGI := hide hgi
        clear hg1 hgi
        have k0 : ∀ t, (gt t).cell? ⟨g, k, none⟩ = some (.string ⟨r.toArray⟩) := fun t => ((HGT.out t).cell (p := ⟨g, k, none⟩) hgb).trans hcb
        have k1 : ∀ t, (gt t).cell? ⟨wr.heap.size, 1, none⟩ = some (.int .i64 (xb : Int)) := fun t => ((HGT.out t).cell (p := ⟨wr.heap.size, 1, none⟩) hub).trans u1
        clear u0 u1 u2 hcb
        repeat (go_big_quiet_step ((go_at_call 50; exact inAbs HGT.out HGI.out (HRC.out _ (HB4.out.trans ((HGT.out _).mono HB4.out.size))))))
        refine wpQuiet_nil ?_
        intro _ hw'
        obtain ⟨t, rfl⟩ := hw'
        have HO5 := hide (ownsRow_below HO3.out (HGT.out t))
        have HB5 := hide (HB4.out.trans ((HGT.out t).mono HB4.out.size))
        generalize gt t = w5 at *
        clear HGT HGI k0 k1 HO3 HB4 HRC hub hgb
        have HBO := hide (HB3.out.trans (HB5.out.mono HB3.out.size))
        obtain ⟨z0, z1, z2, z3, z4, z5, z6, z7⟩ := cells4f ((HB5.out.block W.heap.size (heap_lt HX3.out)).trans HX3.out)
        clear HO5 HB5 HNOk HSN HRL y0 y1 y2 c0
        go_wp2
        refine bodyPost_ret (v := .tuple #[.agg #[.int .u16 0, .int .u16 0, .int .u8 0, .int .u8 0], .int .i64 3]) (by simp [results, Tryd.f22, go_sem, z0, z1, z2, z3]) rfl ⟨by rw [HOUT.out], ?_⟩
        first
          | exact HBO.out
          | exact (((HBO.out.setCell (Nat.le_refl _) _).setCell (Nat.le_refl _) _).setCell (Nat.le_refl _) _).setCell (Nat.le_refl _) _
      | some y =>
        simp only [readV] at HRC
        have HRS := hide (HSN.out y rfl)
        have hy := HRL.out y rfl
        refine wp_region_abs (by kernel_rfl) (by kernel_rfl) ?_
        intro T hT gt hg1 hgi
        have HGT := hide hg1
        have HGI := hide hgi
        clear hg1 hgi
        have k0 : ∀ t, (gt t).cell? ⟨g, k, none⟩ = some (.string ⟨r.toArray⟩) := fun t => ((HGT.out t).cell (p := ⟨g, k, none⟩) hgb).trans hcb
        have k1 : ∀ t, (gt t).cell? ⟨wr.heap.size, 1, none⟩ = some (.int .i64 (xb : Int)) := fun t => ((HGT.out t).cell (p := ⟨wr.heap.size, 1, none⟩) hub).trans u1
        clear u0 u1 u2 hcb
        repeat (go_big_quiet_step ((go_at_call 50; exact inAbs HGT.out HGI.out (HRC.out _ (HB4.out.trans ((HGT.out _).mono HB4.out.size))))))
        refine wpQuiet_nil ?_
        intro _ hw'
        obtain ⟨t, rfl⟩ := hw'
        have HO5 := hide (ownsRow_below HO3.out (HGT.out t))
        have HB5 := hide (HB4.out.trans ((HGT.out t).mono HB4.out.size))
        generalize gt t = w5 at *
        clear HGT HGI k0 k1 HO3 HB4 HRC hub hgb
        clear HSN HNOk HRL y0 y1 y2 c0
        have hwz : w3.heap.size ≤ w5.heap.size := HB5.out.size
        have HLIT := hide (show Reads (w5.alloc (.cells #[.int .u16 (y : Int)] 40)) (w5.heap.size + 1) 1 (some ⟨w5.heap.size, 0, none⟩) 1 [v16 y] from
          ⟨rfl, fun _ => ⟨_, rfl, Nat.lt_succ_self _, fun j u hu => by
            rw [addr_add, Nat.zero_add, cell_of_row _ _ _ _ _ _ (heap_alloc_new w5 _)]
            simpa [v16] using hu⟩⟩)
        have HO6 := hide (HO5.out.alloc (.cells #[.int .u16 (y : Int)] 40))
        have HB6 := hide (HB5.out.alloc hwz (.cells #[.int .u16 (y : Int)] 40))
        clear HO5 HB5
        go_wp2_with (at_builtin; refine wpList_append_any _ rfl (.tmp 41) (.tmp 43) 86 rfl w3.heap.size 40 i0 _ 1 2 Tryd.underlying86 hi0 hz0 hz1 hz2 rfl (by omega) _ k (vals.map v16) rfl HO6.out (w5.heap.size + 1) (some ⟨w5.heap.size, 0, none⟩) 1 1 [v16 y] rfl HLIT.out (by intro u hu; simp [v16] at hu; subst hu; rfl) (by simp only [maxLen]; omega) (by omega) (by simp; omega) ?_; intro v7 w7 hown7 hg7 hat7; have HO7 := hide hown7; have HB7 := hide (HB6.out.grown hg7 (by simp; omega) (fun q hq => (HO6.out.lt q hq).1)); clear hown7 hg7 hat7)
        go_roundw
        case rel => exact ⟨k + 1, vals ++ [y], by omega, by go_num, HRS, hide (by simpa using HO7.out), HB7⟩
        case measure => simp [intOf]; omega
    case neg =>
      obtain rfl : k = 4 := by omega
      obtain ⟨x, y, z, u, rfl, hP, hy, hu⟩ := HDN.out trivial vals HRN.out
      obtain ⟨gv, cap, hv, hgw⟩ := HO.out.form (by omega)
      subst hv
      have HV := hide (show parseMV l = .tuple #[.agg #[.int .u16 (x : Int), .int .u16 (z : Int), .int .u8 (y : Int), .int .u8 (u : Int)], .int .i64 0] from by rw [parseMV, hP])
      have HOF := hide (of4_walk x y z u gv cap wr hy hu (HO.out.lt gv rfl).2 (HO.out.cellAt 0 (by omega)) (HO.out.cellAt 1 (by omega)) (HO.out.cellAt 2 (by omega)) (HO.out.cellAt 3 (by omega)))
      have HBZ := hide (HB3.out.trans (HBW.out.mono HB3.out.size))
      have HXW := hide ((HBW.out.block W.heap.size (heap_lt HX3.out)).trans HX3.out)
      clear HO HRN hP hy hu hlt
      go_wp2_with fail
      refine HOF.out.mono ?_
      rintro e w9 ⟨rfl, hb⟩
      have HBO := hide (HBZ.out.trans (hb.mono HBZ.out.size))
      obtain ⟨z0, z1, z2, z3, z4, z5, z6, z7⟩ := cells4f ((hb.block W.heap.size (heap_lt HXW.out)).trans HXW.out)
      clear hb HOF HBZ HXW HBW
      go_wp2
      refine bodyPost_ret (v := .tuple #[.agg #[.int .u16 (x : Int), .int .u16 (z : Int), .int .u8 (y : Int), .int .u8 (u : Int)], .int .i64 0]) (by simp [results, Tryd.f22, go_sem, z0, z1, z2, z3]) rfl ⟨by rw [HV.out], ?_⟩
      exact (((HBO.out.setCell (Nat.le_refl _) _).setCell (Nat.le_refl _) _).setCell (Nat.le_refl _) _).setCell (Nat.le_refl _) _
end Go.Proofs.YtohbafigjpoijaaDoor
