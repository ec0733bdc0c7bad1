/- A part of the proof: Hs17, Sp18. -/
import Derived.Test.YtifkacnoiocebaaGreatRs33
set_option linter.unusedVariables false
set_option linter.unusedSimpArgs false
set_option maxRecDepth 100000
set_option maxHeartbeats 16000000
namespace Go.Proofs.YtifkacnoiocebaaGreat
open Bdd Go.Maps Go.RowKit
def hitB (ds : List Dev) (ls : List LinkV) (x : Pl) (m : M4) (k c : Nat) : Bool := roundS ds ls k x (asgOf c) && inB m (pk c)
def FirstP (ds : List Dev) (ls : List LinkV) (K : Nat) (x : Pl) (m : M4) : Option P4 → Prop
  | none => ∀ k, k ≤ K → ∀ c, c < 16384 → hitB ds ls x m k c = false
  | some p => ∃ k c, k ≤ K ∧ c < 16384 ∧ p = pk c ∧ hitB ds ls x m k c = true ∧ (∀ k', k' < k → ∀ c', c' < 16384 → hitB ds ls x m k' c' = false) ∧ ∀ c', c' < c → hitB ds ls x m k c' = false
def firstV : Option P4 → Value
  | none => .tuple #[.agg #[.int .i64 0, .int .i64 0, .int .i64 0, .int .i64 0], .bool false]
  | some p => .tuple #[.agg #[.int .i64 p.src, .int .i64 p.dst, .int .i64 p.sport, .int .i64 p.dport], .bool true]
theorem pk_i64 (c : Nat) (hc : c < 16384) : (pk c).ok := by
  simp only [pk, P4.ok, i64ok]
  omega
theorem first_walkR (N : Nat) (ds : List Dev) (ls : List LinkV) (K : Nat) (x : Pl) (hx : poDom x) (m : M4) (hm : m.ok) (W : World) (h : ReachAt W N ds ls K) :
    Calls Tryz.prog 12 #[.pointer (some ⟨N, 0, none⟩), .agg #[.int .i64 x.1, .int .i64 x.2], .agg #[.int .u16 m.src, .int .u16 m.dst, .int .u8 m.sport, .int .u8 m.dport]] W fun e W' => ∃ r, e = .returned (firstV r) ∧ FirstP ds ls K x m r ∧ RowKit.Below W.heap.size W W' := by
  obtain ⟨B, g, A, sA, sc, L, hmm, hL⟩ := h.ex
  have hlen : L.length = K + 1 := by have := congrArg List.length hL; simpa using this
  have HSK := hide (fun k (e : Ent) (he : L[k]? = some e) => show e.S = roundS ds ls k from by
    have hk : k < K + 1 := by rw [← hlen]; exact (List.getElem?_eq_some_iff.1 he).1
    have := congrArg (fun l => l[k]?) hL
    simp only [List.getElem?_map, he, List.getElem?_range hk, Option.map_some] at this
    exact Option.some.inj this)
  obtain ⟨y1, y2⟩ := x
  have HM := hide hmm
  have HMK := hide hm
  have HV := hide hmm.v
  have hK : K ≤ 491520 := by have := hmm.ne.2; omega
  have HLN := hide hlen
  clear h hmm hL hlen hm
  obtain ⟨KL, hKL⟩ : ∃ KL, K + 1 = KL := ⟨_, rfl⟩
  have HKL := hide hKL
  have hKb : KL ≤ 491521 := by omega
  clear hK
  have k0 : ∀ o1 o2 o3, (((W.alloc o1).alloc o2).alloc o3).cell? ⟨N, 0, none⟩ = some (.slice (some ⟨sA, 0, none⟩) KL sc) := fun o1 o2 o3 => by
    have q := (HM.out.below ((((RowKit.Below.refl W.heap.size W).alloc (Nat.le_refl _) o1).alloc (by simp) o2).alloc (by simp; omega) o3)).b0
    rw [HLN.out, hKL] at q
    exact q
  clear hKL
  go_enter Tryz.func12, Tryz.ntmps12
  go_wp2_with fail
  clear k0
  generalize hG : World.alloc (World.alloc (World.alloc W _) _) _ = W1
  have hsz : W1.heap.size = W.heap.size + 3 := by rw [← hG]; simp
  have HQ := hide (fun (w' : World) (hb : RowKit.Below W1.heap.size W1 w') => boxesV (B := W1.heap.size) [(#[.int .i64 y1, .int .i64 y2], 27), (#[.int .u16 m.src, .int .u16 m.dst, .int .u8 m.sport, .int .u8 m.dport], 32), (#[.int .i64 0, .int .i64 0, .int .i64 0, .int .i64 0], 29)] W (W' := w') (by rw [← hG] at hb ⊢; exact hb))
  clear hG
  have HB1 := hide ((HQ.out W1 (RowKit.Below.refl _ _)).2 (by rw [hsz]; omega))
  go_loopw [20] (fun iv wr => ∃ (k : Nat), k ≤ KL ∧ iv = .int .i64 (k : Int) ∧ Hid (RowKit.Below W1.heap.size W1 wr) ∧ Hid (∀ k', k' < k → ∀ c', c' < 16384 → hitB ds ls (y1, y2) m k' c' = false)) (fun iv _ => KL - (intOf iv).toNat)
  case atStart => exact ⟨0, by omega, rfl, hide (RowKit.Below.refl _ _), hide (fun k' h => absurd h (Nat.not_lt_zero _))⟩
  case round =>
    obtain ⟨k, hk, rfl, HB, HN⟩ := hrel
    have HBW := hide (HB1.out.trans (HB.out.mono (by rw [hsz]; omega)))
    by_cases hlt : k < KL
    case neg =>
      obtain rfl : k = KL := by omega
      have hx := (HQ.out wr HB.out).1 2 _ _ rfl (by omega)
      have t0 : wr.cell? ⟨W.heap.size + 2, 0, none⟩ = some (.int .i64 0) := hx.1 0 _ rfl
      have t1 : wr.cell? ⟨W.heap.size + 2, 1, none⟩ = some (.int .i64 0) := hx.1 1 _ rfl
      have t2 : wr.cell? ⟨W.heap.size + 2, 2, none⟩ = some (.int .i64 0) := hx.1 2 _ rfl
      have t3 : wr.cell? ⟨W.heap.size + 2, 3, none⟩ = some (.int .i64 0) := hx.1 3 _ rfl
      have t4 := fun o => hx.2 o
      go_wp2
      refine bodyPost_ret (v := firstV none) (by simp [results, Tryz.f12, go_sem, firstV, t0, t1, t2, t3]) rfl ⟨none, rfl, fun k' h => HN.out k' (by have := HKL.out; omega), ?_⟩
      first | exact HBW.out | exact (((HBW.out.setCell (by show W.heap.size ≤ W.heap.size + 2; omega) _).setCell (by show W.heap.size ≤ W.heap.size + 2; omega) _).setCell (by show W.heap.size ≤ W.heap.size + 2; omega) _).setCell (by show W.heap.size ≤ W.heap.size + 2; omega) _
    case pos =>
      obtain ⟨en, hen⟩ : ∃ en, L[k]? = some en := ⟨_, List.getElem?_eq_getElem (by have := HLN.out; have := HKL.out; omega)⟩
      have HEN := hide hen
      have HMB := hide (HM.out.below HBW.out)
      have c0 : wr.cell? ⟨sA, k, none⟩ = some (.map (some en.blk)) := (HMB.out.el k en hen).1
      clear hen
      go_wp2_with fail
      clear c0
      go_loopw [24] (fun cv wr => ∃ (c : Nat), c ≤ 16384 ∧ cv = .int .i64 (c : Int) ∧ Hid (RowKit.Below W1.heap.size W1 wr) ∧ Hid (∀ c', c' < c → hitB ds ls (y1, y2) m k c' = false)) (fun cv _ => 16384 - (intOf cv).toNat)
      case atStart => exact ⟨0, by omega, rfl, HB, hide (fun c' h => absurd h (Nat.not_lt_zero _))⟩
      case round =>
        clear HB HBW HMB
        obtain ⟨c, hc, rfl, HB, HC⟩ := hrel
        have HBW := hide (HB1.out.trans (HB.out.mono (by rw [hsz]; omega)))
        by_cases hcl : c < 16384
        case neg =>
          obtain rfl : c = 16384 := by omega
          go_wp2
          go_roundw
          case rel => exact ⟨k + 1, by omega, by go_num, HB, hide (fun k' h c' hc' => by
            by_cases e : k' = k
            · rw [e]; exact HC.out c' hc'
            · exact HN.out k' (by omega) c' hc')⟩
          case measure => simp [intOf]; omega
        case pos =>
          have HPK := hide (pk_i64 c hcl)
          have hci : (c : Int) < 16384 := by omega
          obtain ⟨⟨x0, x1, x2, x3⟩, hpk⟩ : ∃ p, pk c = p := ⟨_, rfl⟩
          have HOF : Hid (Calls Tryz.prog 38 #[.int .i64 c] wr fun e W' => e = .returned (.tuple #[.agg #[.int .i64 x0, .int .i64 x1, .int .i64 x2, .int .i64 x3], .int .i64 0]) ∧ RowKit.Below wr.heap.size wr W') := hide (by have q := of_walk wr c hcl; rw [pk_val, hpk] at q; exact q)
          have HPV := hide hpk
          rw [hpk] at HPK
          clear hpk
          go_wp2_with fail
          refine HOF.out.mono ?_
          clear HOF
          rintro e w3 ⟨rfl, hb⟩
          have hb2 := hb.alloc hb.size (.cells #[.int .i64 x0, .int .i64 x1, .int .i64 x2, .int .i64 x3] 29)
          have HX3 := hide (BoxV.new w3 #[.int .i64 x0, .int .i64 x1, .int .i64 x2, .int .i64 x3] 29)
          have HL3 := hide (show w3.heap.size < (w3.alloc (.cells #[.int .i64 x0, .int .i64 x1, .int .i64 x2, .int .i64 x3] 29)).heap.size from by simp)
          have HB3 := hide (HB.out.trans (hb2.mono HB.out.size))
          clear hb hb2 HB HBW
          go_wp2_with fail
          obtain ⟨Q, hQ⟩ : ∃ Q, w3.heap.size = Q := ⟨_, rfl⟩
          rw [hQ] at HX3 HL3
          try rw [hQ]
          clear hQ
          generalize World.alloc w3 _ = w4 at *
          have HBW := hide (HB1.out.trans (HB3.out.mono (by rw [hsz]; omega)))
          have HM3 := hide (HM.out.below HBW.out)
          have HFE := hide (HM3.out.el k en HEN.out)
          obtain ⟨EV, hEV⟩ : ∃ EV, en.S (y1, y2) (asgOf c) = EV := ⟨_, rfl⟩
          have HEE := hide (show roundS ds ls k (y1, y2) (asgOf c) = EV from by rw [← hEV, HSK.out k en HEN.out])
          refine wp_region_abs (by kernel_rfl) (by kernel_rfl) ?_
          intro T hT gt hg1 hgi
          have HGT := hide hg1
          have HGI := hide hgi
          clear hg1 hgi
          have k1 : ∀ t, (gt t).cell? ⟨N, 1, none⟩ = some (.pointer (some ⟨g, 0, none⟩)) := fun t => (HM3.out.below (HGT.out t)).b1
          have k2 : ∀ t, (gt t).cell? ⟨W.heap.size, 0, none⟩ = some (.int .i64 y1) := fun t => ((HQ.out _ (HB3.out.trans ((HGT.out t).mono HB3.out.size))).1 0 _ _ rfl (by omega)).1 0 _ rfl
          have k3 : ∀ t, (gt t).cell? ⟨W.heap.size, 1, none⟩ = some (.int .i64 y2) := fun t => ((HQ.out _ (HB3.out.trans ((HGT.out t).mono HB3.out.size))).1 0 _ _ rfl (by omega)).1 1 _ rfl
          have k5 : ∀ t, (Instr.lookup 73 (.map (some en.blk)) (.agg #[.int .i64 y1, .int .i64 y2]) false).run Tryz.prog (gt t) = .ok (.int .i64 ((numAt en.M (y1, y2) : Nat) : Int)) (gt t) := fun t => MapIs.lookN (HFE.out.2.1.same ((HGT.out t).block _ HFE.out.2.1.lt)) HFE.out.2.2.ints y1 y2 hx.1 hx.2
          have HEW := hide (fun t => as_eval (HM3.out.below (HGT.out t)).sa HV.out (HFE.out.2.2.isF (y1, y2)) hcl)
          simp only [hEV] at HEW
          clear hEV
          repeat (go_big_quiet_step ((go_at_call 36; exact inAbs HGT.out HGI.out (HEW.out _))))
          refine wpQuiet_nil ?_
          intro _ hw'
          obtain ⟨t, rfl⟩ := hw'
          have HB4 := hide (HB3.out.trans ((HGT.out t).mono HB3.out.size))
          have HX4 := hide (HX3.out.below (HGT.out t) HL3.out)
          have HX4L := hide (Nat.lt_of_lt_of_le HL3.out (HGT.out t).size)
          generalize gt t = w5 at *
          clear HGT HGI k1 k2 k3 k5 HEW HM3 HFE HX3 HL3 HB3 HBW
          cases EV
          case false =>
            have HH := hide (show hitB ds ls (y1, y2) m k c = false from by rw [hitB, HEE.out]; rfl)
            clear HEE
            go_wp2
            go_roundw
            case rel => exact ⟨c + 1, by omega, by go_num, HB4, hide (fun c' h => by
              by_cases e : c' = c
              · rw [e]; exact HH.out
              · exact HC.out c' (by omega))⟩
            case measure => simp [intOf]; omega
          case true =>
            obtain ⟨IV, hIV⟩ : ∃ IV, inB m ⟨x0, x1, x2, x3⟩ = IV := ⟨_, rfl⟩
            have HH := hide (show hitB ds ls (y1, y2) m k c = IV from by rw [hitB, HEE.out, HPV.out, hIV]; rfl)
            have HIN := hide (in_ofNat m ⟨x0, x1, x2, x3⟩ w5 HMK.out HPK.out)
            simp only [hIV] at HIN
            clear hIV HEE
            have m0 : w5.cell? ⟨W.heap.size + 1, 0, none⟩ = some (.int .u16 m.src) := ((HQ.out w5 HB4.out).1 1 _ _ rfl (by omega)).1 0 _ rfl
            have m1 : w5.cell? ⟨W.heap.size + 1, 1, none⟩ = some (.int .u16 m.dst) := ((HQ.out w5 HB4.out).1 1 _ _ rfl (by omega)).1 1 _ rfl
            have m2 : w5.cell? ⟨W.heap.size + 1, 2, none⟩ = some (.int .u8 m.sport) := ((HQ.out w5 HB4.out).1 1 _ _ rfl (by omega)).1 2 _ rfl
            have m3 : w5.cell? ⟨W.heap.size + 1, 3, none⟩ = some (.int .u8 m.dport) := ((HQ.out w5 HB4.out).1 1 _ _ rfl (by omega)).1 3 _ rfl
            have q0 : w5.cell? ⟨Q, 0, none⟩ = some (.int .i64 x0) := HX4.out.1 0 _ rfl
            have q1 : w5.cell? ⟨Q, 1, none⟩ = some (.int .i64 x1) := HX4.out.1 1 _ rfl
            have q2 : w5.cell? ⟨Q, 2, none⟩ = some (.int .i64 x2) := HX4.out.1 2 _ rfl
            have q3 : w5.cell? ⟨Q, 3, none⟩ = some (.int .i64 x3) := HX4.out.1 3 _ rfl
            have HQL := hide (show Q < w5.heap.size from HX4L.out)
            go_wp2_with fail
            refine HIN.out.mono ?_
            rintro e w6 ⟨rfl, hb⟩
            have HB6 := hide (HB4.out.trans (hb.mono HB4.out.size))
            have HX6 := hide (HX4.out.below hb HQL.out)
            clear hb HIN HB4 HX4 m0 m1 m2 m3 q0 q1 q2 q3
            cases IV
            case false =>
              go_wp2
              go_roundw
              case rel => exact ⟨c + 1, by omega, by go_num, HB6, hide (fun c' h => by
                by_cases e : c' = c
                · rw [e]; exact HH.out
                · exact HC.out c' (by omega))⟩
              case measure => simp [intOf]; omega
            case true =>
              have HF := hide (show FirstP ds ls K (y1, y2) m (some ⟨x0, x1, x2, x3⟩) from ⟨k, c, by have := HKL.out; omega, hcl, HPV.out.symm, HH.out, fun k' h => HN.out k' h, HC.out⟩)
              have hz := (HQ.out w6 HB6.out).1 2 _ _ rfl (by omega)
              have t0 : w6.cell? ⟨W.heap.size + 2, 0, none⟩ = some (.int .i64 0) := hz.1 0 _ rfl
              have t1 : w6.cell? ⟨W.heap.size + 2, 1, none⟩ = some (.int .i64 0) := hz.1 1 _ rfl
              have t2 : w6.cell? ⟨W.heap.size + 2, 2, none⟩ = some (.int .i64 0) := hz.1 2 _ rfl
              have t3 : w6.cell? ⟨W.heap.size + 2, 3, none⟩ = some (.int .i64 0) := hz.1 3 _ rfl
              have t4 := fun o => hz.2 o
              have q0 : w6.cell? ⟨Q, 0, none⟩ = some (.int .i64 x0) := HX6.out.1 0 _ rfl
              have q1 : w6.cell? ⟨Q, 1, none⟩ = some (.int .i64 x1) := HX6.out.1 1 _ rfl
              have q2 : w6.cell? ⟨Q, 2, none⟩ = some (.int .i64 x2) := HX6.out.1 2 _ rfl
              have q3 : w6.cell? ⟨Q, 3, none⟩ = some (.int .i64 x3) := HX6.out.1 3 _ rfl
              have HBW := hide (HB1.out.trans (HB6.out.mono (by rw [hsz]; omega)))
              go_wp2
              refine bodyPost_ret (v := firstV (some ⟨x0, x1, x2, x3⟩)) (by simp [results, Tryz.f12, go_sem, firstV, t0, t1, t2, t3]) rfl ⟨_, rfl, HF.out, ?_⟩
              exact (((HBW.out.setCell (by show W.heap.size ≤ W.heap.size + 2; omega) _).setCell (by show W.heap.size ≤ W.heap.size + 2; omega) _).setCell (by show W.heap.size ≤ W.heap.size + 2; omega) _).setCell (by show W.heap.size ≤ W.heap.size + 2; omega) _
end Go.Proofs.YtifkacnoiocebaaGreat
namespace Go.Proofs.YtifkacnoiocebaaGreat
open Go.Maps Go.RowKit Go.WideElems
theorem in_peer {ds : List Dev} {ls : List LinkV} (hd : ∀ d ∈ ds, DevOk d) (hr : ∀ d ∈ ds, ∀ r ∈ d.rules, r.ok) {x : Pl} {c : Nat} (hc : c < 16384) : ∀ k, inS ds ls k x c = true → ∃ y, peerF ls y = some x
  | 0, h => by
    obtain ⟨hf, e⟩ := fld_of hc
    have h1 := round_zero (ds := ds) (ls := ls) (x := x) hf
    unfold inR4 at h1
    rw [e] at h1
    obtain ⟨i, d, _, _, h2, _⟩ := h1.1 h
    exact ⟨_, h2⟩
  | k + 1, h => by
    rcases (in_succ hd hr k x c hc).1 h with h | ⟨i, d, o, _, h2, _⟩
    · exact in_peer hd hr hc k h
    · exact ⟨_, h2⟩
theorem in_le {ds : List Dev} {ls : List LinkV} {x : Pl} {c : Nat} {j : Nat} (h : inS ds ls j x c = true) : ∀ k, j ≤ k → inS ds ls k x c = true := by
  intro k hk
  induction k with
  | zero =>
    obtain rfl : j = 0 := by omega
    exact h
  | succ k ih =>
    rcases Nat.lt_or_ge k j with hl | hl
    · obtain rfl : j = k + 1 := by omega
      exact h
    · exact le_round ds ls k x _ (ih hl)
theorem tab_at {ds : List Dev} {ls : List LinkV} {x : Pl} {c : Nat} (hc : c < 16384) : ∀ K, (∀ j, j ≤ K → inS ds ls j x c = true → 0 ≤ tabF ds ls K x c ∧ tabF ds ls K x c ≤ (j : Int)) ∧ (0 ≤ tabF ds ls K x c → inS ds ls (tabF ds ls K x c).toNat x c = true ∧ (tabF ds ls K x c).toNat ≤ K)
  | 0 => by
    have h0 := tab_in ds ls 0 x c hc
    have h1 := tab_le ds ls x c hc 0
    refine ⟨fun j hj h => ?_, fun h => ?_⟩
    · obtain rfl : j = 0 := by omega
      exact ⟨h0.2 h, by omega⟩
    · have e : tabF ds ls 0 x c = 0 := by omega
      rw [e]
      exact ⟨h0.1 h, by decide⟩
  | K + 1 => by
    obtain ⟨i1, i2⟩ := tab_at hc K
    rw [tab_succ ds ls K x c hc]
    by_cases h0 : 0 ≤ tabF ds ls K x c
    · rw [if_pos h0]
      refine ⟨fun j hj h => ⟨h0, ?_⟩, fun _ => ⟨(i2 h0).1, by have := (i2 h0).2; omega⟩⟩
      rcases Nat.lt_or_ge K j with hl | hl
      · have := tab_le ds ls x c hc K
        omega
      · exact (i1 j hl h).2
    · rw [if_neg h0]
      by_cases h1 : inS ds ls (K + 1) x c = true
      · rw [if_pos h1]
        refine ⟨fun j hj h => ⟨by omega, ?_⟩, fun _ => ⟨by simpa using h1, by omega⟩⟩
        rcases Nat.lt_or_ge K j with hl | hl
        · omega
        · exact absurd (i1 j hl h).1 h0
      · rw [if_neg h1]
        refine ⟨fun j hj h => absurd (in_le h (K + 1) hj) h1, fun h => by omega⟩
def hitT (T : Nat → Int) (m : M4) (c : Nat) : Prop := 0 ≤ T c ∧ inB m (pk c) = true
def BestT (T : Nat → Int) (m : M4) (n : Nat) : Option Nat → Prop
  | none => ∀ c, c < n → ¬ hitT T m c
  | some b => b < n ∧ hitT T m b ∧ (∀ c, c < n → hitT T m c → T b ≤ T c) ∧ ∀ c, c < b → hitT T m c → T b < T c
theorem BestT.first {ds : List Dev} {ls : List LinkV} {K : Nat} {x : Pl} {m : M4} {o : Option Nat} (h : BestT (tabF ds ls K x) m 16384 o) : FirstP ds ls K x m (o.map pk) := by
  cases o with
  | none =>
    intro k hk c hc
    cases e : hitB ds ls x m k c with
    | false => rfl
    | true =>
      unfold hitB at e
      rw [Bool.and_eq_true] at e
      exact absurd ⟨((tab_at hc K).1 k hk e.1).1, e.2⟩ (h c hc)
  | some b =>
    obtain ⟨hb, ⟨h1, h2⟩, h3, h4⟩ := h
    obtain ⟨q1, q2⟩ := (tab_at (ds := ds) (ls := ls) (x := x) hb K).2 h1
    refine ⟨(tabF ds ls K x b).toNat, b, q2, hb, rfl, by unfold hitB; rw [Bool.and_eq_true]; exact ⟨q1, h2⟩, fun k' hk' c' hc' => ?_, fun c' hc' => ?_⟩
    · cases e : hitB ds ls x m k' c' with
      | false => rfl
      | true =>
        unfold hitB at e
        rw [Bool.and_eq_true] at e
        have r1 := (tab_at hc' K).1 k' (by omega) e.1
        have r2 := h3 c' hc' ⟨r1.1, e.2⟩
        omega
    · cases e : hitB ds ls x m (tabF ds ls K x b).toNat c' with
      | false => rfl
      | true =>
        unfold hitB at e
        rw [Bool.and_eq_true] at e
        have r1 := (tab_at (by omega : c' < 16384) K).1 _ q2 e.1
        have r2 := h4 c' hc' ⟨r1.1, e.2⟩
        omega
theorem FirstP.one {ds : List Dev} {ls : List LinkV} {K : Nat} {x : Pl} {m : M4} {r r' : Option P4} (h : FirstP ds ls K x m r) (h' : FirstP ds ls K x m r') : r = r' := by
  cases r with
  | none =>
    cases r' with
    | none => rfl
    | some p =>
      obtain ⟨k, c, h1, h2, _, h4, _⟩ := h'
      rw [h k h1 c h2] at h4
      cases h4
  | some p =>
    obtain ⟨k, c, h1, h2, h3, h4, h5, h6⟩ := h
    cases r' with
    | none =>
      rw [h' k h1 c h2] at h4
      cases h4
    | some p' =>
      obtain ⟨k', c', g1, g2, g3, g4, g5, g6⟩ := h'
      have e1 : k = k' := by
        rcases Nat.lt_trichotomy k k' with hl | hl | hl
        · rw [g5 k hl c h2] at h4; cases h4
        · exact hl
        · rw [h5 k' hl c' g2] at g4; cases g4
      subst e1
      have e2 : c = c' := by
        rcases Nat.lt_trichotomy c c' with hl | hl | hl
        · rw [g6 c hl] at h4; cases h4
        · exact hl
        · rw [h6 c' hl] at g4; cases g4
      rw [h3, g3, e2]
section
variable {w w' : World} {s mb : Nat} {rd : Int} {D : PoK → Prop} {blk : PoK → Nat} {T : PoK → Nat → Int} {M : PoK → Option Value}
theorem SetsAt.up (h : SetsAt w s mb rd D blk T M) (hb : RowKit.Below w.heap.size w w') : SetsAt w' s mb rd D blk T M :=
  h.same (fun b hh => hb.block b (by
    rcases hh with rfl | rfl | ⟨x, hx, rfl⟩
    · exact cell_lt h.c0
    · exact h.mp.lt
    · exact cell_lt (h.tab x hx 0 (by omega))))
theorem SetsAt.look (h : SetsAt w s mb rd D blk T M) (x y : Int) (hx : i64ok x) (hy : i64ok y) : (D (x, y) ∧ (Instr.lookup 42 (.map (some mb)) (.agg #[.int .i64 x, .int .i64 y]) false).run Tryz.prog w = .ok (.slice (some ⟨blk (x, y), 0, none⟩) 16384 16384) w) ∨
    (¬ D (x, y) ∧ (Instr.lookup 42 (.map (some mb)) (.agg #[.int .i64 x, .int .i64 y]) false).run Tryz.prog w = .ok (.slice none 0 0) w) := by
  have hl := h.mp.lookS x y hx hy
  by_cases hD : D (x, y)
  · rw [h.val _ hD] at hl
    exact .inl ⟨hD, hl⟩
  · rw [h.no _ hD] at hl
    exact .inr ⟨hD, hl⟩
end
theorem setsRound_walk (W : World) (s mb : Nat) (rd : Int) (D : PoK → Prop) (blk : PoK → Nat) (T : PoK → Nat → Int) (M : PoK → Option Value) (h : SetsAt W s mb rd D blk T M) (x y : Int) (hx : i64ok x) (hy : i64ok y) (p : P4) (R : Int) (hR1 : D (x, y) → rightB p = true → R = T (x, y) (codeP p)) (hR2 : (¬ D (x, y) ∨ rightB p = false) → R = -1) :
    Calls Tryz.prog 11 #[.pointer (some ⟨s, 0, none⟩), .agg #[.int .i64 x, .int .i64 y], .agg #[.int .i64 p.src, .int .i64 p.dst, .int .i64 p.sport, .int .i64 p.dport]] W fun e W' => e = .returned (.int .i64 R) ∧ RowKit.Below W.heap.size W W' := by
  obtain ⟨a, b, c, d⟩ := p
  simp only
  have HS := hide h
  have HR1 := hide hR1
  have HR2 := hide hR2
  have HG : ∃ W1, W1 = (W.alloc (.cells #[.int .i64 x, .int .i64 y] 27)).alloc (.cells #[.int .i64 a, .int .i64 b, .int .i64 c, .int .i64 d] 29) := ⟨_, rfl⟩
  obtain ⟨W1, hG⟩ := HG
  have hb1 : RowKit.Below W.heap.size W W1 := by rw [hG]; exact (below_alloc2 W _).trans ((below_alloc2 _ _).mono (by simp))
  have HB1 := hide hb1
  have hz : W1.heap.size = W.heap.size + 2 := by rw [hG]; simp
  have HZ := hide hz
  have hb0 : BoxV W1 W.heap.size #[.int .i64 x, .int .i64 y] := by rw [hG]; exact (BoxV.new W _ _).below (below_alloc2 _ _) (by simp)
  have hbp : BoxV W1 (W.heap.size + 1) #[.int .i64 a, .int .i64 b, .int .i64 c, .int .i64 d] := by
    rw [hG]
    have := BoxV.new (W.alloc (.cells #[.int .i64 x, .int .i64 y] 27)) #[.int .i64 a, .int .i64 b, .int .i64 c, .int .i64 d] 29
    simpa using this
  have HX := hide (And.intro hb0 hbp)
  have HGG := hide hG
  clear h hR1 hR2 hG hb1 hz hb0 hbp
  go_enter Tryz.func11, Tryz.ntmps11
  go_wp2_with fail
  rw [← HGG.out]
  have c1 : W1.cell? ⟨s, 1, none⟩ = some (.map (some mb)) := (HS.out.up HB1.out).c1
  have z0 : W1.cell? ⟨W.heap.size, 0, none⟩ = some (.int .i64 x) := HX.out.1.1 0 _ rfl
  have z1 : W1.cell? ⟨W.heap.size, 1, none⟩ = some (.int .i64 y) := HX.out.1.1 1 _ rfl
  have HB2 := hide HB1.out.drew
  have HX2 := hide (And.intro (HX.out.1.below (RowKit.Below.refl _ W1).drew (cell_lt (HX.out.1.1 0 _ rfl))) (HX.out.2.below (RowKit.Below.refl _ W1).drew (cell_lt (HX.out.2.1 0 _ rfl))))
  have HS2 := hide (HS.out.up HB2.out)
  rcases HS2.out.look x y hx hy with ⟨hD, hlk⟩ | ⟨hD, hlk⟩
  · go_region
    have p0 : W1.drew.cell? ⟨W.heap.size + 1, 0, none⟩ = some (.int .i64 a) := HX2.out.2.1 0 _ rfl
    have p1 : W1.drew.cell? ⟨W.heap.size + 1, 1, none⟩ = some (.int .i64 b) := HX2.out.2.1 1 _ rfl
    have p2 : W1.drew.cell? ⟨W.heap.size + 1, 2, none⟩ = some (.int .i64 c) := HX2.out.2.1 2 _ rfl
    have p3 : W1.drew.cell? ⟨W.heap.size + 1, 3, none⟩ = some (.int .i64 d) := HX2.out.2.1 3 _ rfl
    clear hlk c1 z0 z1 HX HGG HZ
    generalize World.drew W1 = W2 at *
    obtain ⟨RB, hRB⟩ : ∃ RB, rightB ⟨a, b, c, d⟩ = RB := ⟨_, rfl⟩
    have HRI := hide (right_is ⟨a, b, c, d⟩ W2 RB hRB)
    have HRB := hide hRB
    clear hRB
    go_wp2_with fail
    refine HRI.out.mono ?_
    clear HRI p0 p1 p2 p3
    rintro e w3 ⟨rfl, hb3⟩
    have HB3 := hide (HB2.out.trans (hb3.mono HB2.out.size))
    have HS3 := hide (HS2.out.up hb3)
    have HX3 := hide (HX2.out.2.below hb3 (cell_lt (HX2.out.2.1 0 _ rfl)))
    clear hb3 HX2 HS2 HB2
    cases RB
    case false =>
      have hR := HR2.out (.inr HRB.out)
      subst hR
      go_wp2_with fail
      go_ret
      exact ⟨rfl, HB3.out⟩
    case true =>
      have hr := HRB.out
      simp only [rightB, inR, Bool.and_eq_true, decide_eq_true_eq] at hr
      have hR := HR1.out hD HRB.out
      obtain ⟨an, rfl⟩ : ∃ n : Nat, a = (n : Int) := ⟨a.toNat, by omega⟩
      obtain ⟨bn, rfl⟩ : ∃ n : Nat, b = (n : Int) := ⟨b.toNat, by omega⟩
      obtain ⟨cn, rfl⟩ : ∃ n : Nat, c = (n : Int) := ⟨c.toNat, by omega⟩
      obtain ⟨dn, rfl⟩ : ∃ n : Nat, d = (n : Int) := ⟨d.toNat, by omega⟩
      have hcp : codeP ⟨(an : Int), (bn : Int), (cn : Int), (dn : Int)⟩ = an * 1024 + bn * 64 + cn * 8 + dn := by simp [codeP]
      rw [hcp] at hR
      have HCO := hide (codeR_walk an bn cn dn (by omega) (by omega) (by omega) (by omega) w3)
      have hlt : an * 1024 + bn * 64 + cn * 8 + dn < 16384 := by omega
      obtain ⟨cc, hcc⟩ : ∃ cc, an * 1024 + bn * 64 + cn * 8 + dn = cc := ⟨_, rfl⟩
      rw [hcc] at hR hlt HCO
      have p0 : w3.cell? ⟨W.heap.size + 1, 0, none⟩ = some (.int .i64 (an : Int)) := HX3.out.1 0 _ rfl
      have p1 : w3.cell? ⟨W.heap.size + 1, 1, none⟩ = some (.int .i64 (bn : Int)) := HX3.out.1 1 _ rfl
      have p2 : w3.cell? ⟨W.heap.size + 1, 2, none⟩ = some (.int .i64 (cn : Int)) := HX3.out.1 2 _ rfl
      have p3 : w3.cell? ⟨W.heap.size + 1, 3, none⟩ = some (.int .i64 (dn : Int)) := HX3.out.1 3 _ rfl
      have HLT := hide hlt
      have HRR := hide hR
      clear hr hcp hcc hlt hR
      go_wp2_with fail
      clear p0 p1 p2 p3
      refine HCO.out.mono ?_
      clear HCO
      rintro e w4 ⟨rfl, hb4⟩
      have t0 : w4.cell? ⟨blk (x, y), cc, none⟩ = some (.int .i64 (T (x, y) cc)) := (HS3.out.up hb4).tab _ hD cc HLT.out
      have HB4 := hide (HB3.out.trans (hb4.mono HB3.out.size))
      have hci : (cc : Int) < 16384 := by have := HLT.out; omega
      clear hb4
      go_wp2_with fail
      go_ret
      exact ⟨by rw [HRR.out]; rfl, HB4.out⟩
  · go_region
    have hR := HR2.out (.inl hD)
    subst hR
    clear hlk c1 z0 z1
    generalize World.drew W1 = W2 at *
    go_wp2_with fail
    go_ret
    exact ⟨rfl, HB2.out⟩
theorem setsCount_walk (W : World) (s mb : Nat) (rd : Int) (D : PoK → Prop) (blk : PoK → Nat) (T : PoK → Nat → Int) (M : PoK → Option Value) (h : SetsAt W s mb rd D blk T M) (x y : Int) (hx : i64ok x) (hy : i64ok y) (R : Nat) (hR1 : D (x, y) → R = (List.range 16384).countP (fun c => decide (0 ≤ T (x, y) c))) (hR2 : ¬ D (x, y) → R = 0) :
    Calls Tryz.prog 15 #[.pointer (some ⟨s, 0, none⟩), .agg #[.int .i64 x, .int .i64 y]] W fun e W' => e = .returned (.int .i64 (R : Int)) ∧ RowKit.Below W.heap.size W W' := by
  have HS := hide h
  have HR1 := hide hR1
  have HR2 := hide hR2
  have HB1 := hide (below_alloc2 W (.cells #[.int .i64 x, .int .i64 y] 27))
  have HX := hide (BoxV.new W #[.int .i64 x, .int .i64 y] 27)
  clear h hR1 hR2
  go_enter Tryz.func15, Tryz.ntmps15
  go_wp2_with fail
  generalize World.alloc W _ = W1 at *
  have c1 : W1.cell? ⟨s, 1, none⟩ = some (.map (some mb)) := (HS.out.up HB1.out).c1
  have z0 : W1.cell? ⟨W.heap.size, 0, none⟩ = some (.int .i64 x) := HX.out.1 0 _ rfl
  have z1 : W1.cell? ⟨W.heap.size, 1, none⟩ = some (.int .i64 y) := HX.out.1 1 _ rfl
  have HB2 := hide HB1.out.drew
  have HS2 := hide (HS.out.up HB2.out)
  rcases HS2.out.look x y hx hy with ⟨hD, hlk⟩ | ⟨hD, hlk⟩
  · go_region
    clear hlk c1 z0 z1
    generalize World.drew W1 = W2 at *
    have hR := HR1.out hD
    subst hR
    go_wp2_with fail
    go_loopw [5, 15] (fun nv iv wr => ∃ c : Nat, c ≤ 16384 ∧ iv = .int .i64 (c : Int) ∧ ∃ k : Nat, k ≤ c ∧ nv = .int .i64 (k : Int) ∧ Hid (k = (List.range c).countP (fun c => decide (0 ≤ T (x, y) c))) ∧ Hid (wr = W2)) (fun _ iv _ => 16384 - (intOf iv).toNat)
    case atStart => exact ⟨0, by omega, rfl, 0, by omega, rfl, hide rfl, hide rfl⟩
    case round =>
      obtain ⟨c, hc, rfl, k, hk, rfl, HK, HW⟩ := hrel
      obtain rfl := HW.out
      by_cases hcl : c < 16384
      case neg =>
        obtain rfl : c = 16384 := by omega
        go_wp2_with fail
        go_ret
        exact ⟨by rw [HK.out]; rfl, HB2.out⟩
      case pos =>
        have t0 : wr.cell? ⟨blk (x, y), c, none⟩ = some (.int .i64 (T (x, y) c)) := HS2.out.tab _ hD c hcl
        have hci : (c : Int) < 16384 := by omega
        have hsu : (List.range (c + 1)).countP (fun c => decide (0 ≤ T (x, y) c)) = (List.range c).countP (fun c => decide (0 ≤ T (x, y) c)) + if 0 ≤ T (x, y) c then 1 else 0 := by
          rw [List.range_succ, List.countP_append, List.countP_singleton]
          simp
        have HSU := hide hsu
        clear hsu
        by_cases h0 : 0 ≤ T (x, y) c
        · have HK2 := hide (show k + 1 = (List.range (c + 1)).countP (fun c => decide (0 ≤ T (x, y) c)) from by rw [HSU.out, if_pos h0, HK.out])
          go_wp2_with fail
          go_roundw
          case rel => exact ⟨c + 1, by omega, by go_num, k + 1, by omega, by go_num, HK2, (by first | exact hide rfl | exact hide trivial)⟩
          case measure => simp [intOf]; omega
        · have HK2 := hide (show k = (List.range (c + 1)).countP (fun c => decide (0 ≤ T (x, y) c)) from by rw [HSU.out, if_neg h0, HK.out]; rfl)
          go_wp2_with fail
          go_roundw
          case rel => exact ⟨c + 1, by omega, by go_num, k, by omega, rfl, HK2, (by first | exact hide rfl | exact hide trivial)⟩
          case measure => simp [intOf]; omega
  · go_region
    clear hlk c1 z0 z1
    generalize World.drew W1 = W2 at *
    have hR := HR2.out hD
    subst hR
    go_wp2_with fail
    go_loopw [5, 15] (fun nv iv wr => nv = .int .i64 0 ∧ iv = .int .i64 0 ∧ Hid (wr = W2)) (fun _ _ _ => 0)
    case atStart => exact ⟨rfl, rfl, hide rfl⟩
    case round =>
      obtain ⟨rfl, rfl, HW⟩ := hrel
      obtain rfl := HW.out
      go_wp2_with fail
      go_ret
      exact ⟨rfl, HB2.out⟩
end Go.Proofs.YtifkacnoiocebaaGreat
