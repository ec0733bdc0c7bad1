/- A part of the proof: G5. -/
import Derived.Test.YtifkacnoiocebaaGreatRs3
set_option linter.unusedVariables false
set_option linter.unusedSimpArgs false
set_option maxRecDepth 100000
set_option maxHeartbeats 4000000
namespace Go.Proofs.YtifkacnoiocebaaGreat
open Go.ChangeAt Go.ChangeShapes Go.RowKit Go.WideShapes
def topI (d : Int) (b : Nat) : Int := d / 2 ^ (4 - b) * 2 ^ (4 - b)
theorem fin165 (P : Int → Nat → Prop) [∀ d b, Decidable (P d b)] (h : ∀ (i : Fin 16) (j : Fin 5), P (i.val : Int) j.val) (d : Int) (b : Nat) (h0 : 0 ≤ d) (h1 : d ≤ 15) (hb : b ≤ 4) : P d b := by
  have := h ⟨d.toNat, by omega⟩ ⟨b, by omega⟩
  simpa [Int.toNat_of_nonneg h0] using this
theorem top_takes (d : Int) (b : Nat) (h0 : 0 ≤ d) (h1 : d ≤ 15) (hb : b ≤ 4) : bits .andNot .i64 d (15 / 2 ^ b) = topI d b :=
  fin165 (fun d b => bits .andNot .i64 d (15 / 2 ^ b) = topI d b) (by decide +kernel) d b h0 h1 hb
theorem top_mask (d : Int) (b : Nat) (h0 : 0 ≤ d) (h1 : d ≤ 15) (hb : b ≤ 4) : (topI d b == d) = maskB d b := by
  have := fin165 (fun d b => (topI d b == d) = (bits .and .i64 d (15 / 2 ^ b) == 0)) (by decide +kernel) d b h0 h1 hb
  rw [this, maskB]; simp
def hitR (d : Int) (b : Nat) (r : RouteV) : Bool := routeB r.v r.b r.p && (r.b == (b : Int)) && (topI d b == r.v)
theorem hitR_takes {d : Int} {b : Nat} {r : RouteV} (h0 : 0 ≤ d) (h1 : d ≤ 15) (hb : b ≤ 4) : hitR d b r = (routeB r.v r.b r.p && (r.b == (b : Int)) && takesB d r.v r.b) := by
  unfold hitR
  by_cases e : r.b = (b : Int)
  · rw [e]
    unfold takesB
    rw [show ((b : Int)).toNat = b by omega, top_takes d b h0 h1 hb]
  · have : (r.b == (b : Int)) = false := by simpa using e
    rw [this]; simp
theorem outHit_eq {d : Int} {r : RouteV} {s : Int} (h0 : 0 ≤ d) (h1 : d ≤ 15) : outHit d r s = true ↔ s < r.b ∧ ∃ b : Nat, b ≤ 4 ∧ r.b = b ∧ hitR d b r = true := by
  have e1 : decide (0 ≤ d) = true := by simpa using h0
  have e2 : decide (d < 16) = true := by simp; omega
  constructor
  · intro h
    simp only [outHit, Bool.and_eq_true, decide_eq_true_eq] at h
    obtain ⟨⟨⟨⟨hr, _⟩, _⟩, ht⟩, hs⟩ := h
    have hr' := hr
    simp only [routeB, Bool.and_eq_true, decide_eq_true_eq] at hr'
    obtain ⟨b, hb⟩ : ∃ b : Nat, r.b = (b : Int) := ⟨r.b.toNat, by omega⟩
    refine ⟨hs, b, by omega, hb, ?_⟩
    rw [hitR_takes h0 h1 (by omega), hr, ht, hb]; simp
  · rintro ⟨hs, b, hb, e, hh⟩
    rw [hitR_takes h0 h1 hb] at hh
    simp only [Bool.and_eq_true] at hh
    simp only [outHit, e1, e2, hh.1.1, hh.2, Bool.and_eq_true, decide_eq_true_eq]
    exact ⟨⟨⟨⟨trivial, trivial⟩, trivial⟩, trivial⟩, hs⟩
theorem fold_out {d : Int} (h0 : 0 ≤ d) (h1 : d ≤ 15) : ∀ (l : List RouteV) (s : Int × Int),
    (∀ r ∈ l, outHit d r s.2 = false) → l.foldl (outStep d) s = s := by
  intro l
  induction l with
  | nil => intro s _; rfl
  | cons a l ih =>
    intro s h
    have : outStep d s a = s := by unfold outStep; rw [h a (by simp)]; rfl
    rw [List.foldl_cons, this]
    exact ih s (fun r hr => h r (by simp [hr]))
theorem outF_none' {d : Int} {l : List RouteV} (h : ∀ b : Nat, b ≤ 4 → ∀ r ∈ l, hitR d b r = false) (h0 : 0 ≤ d) (h1 : d ≤ 15) : outF d l = (0, -1) := by
  refine fold_out h0 h1 l _ (fun r hr => ?_)
  cases e : outHit d r (-1)
  · rfl
  · obtain ⟨_, b, hb, _, hh⟩ := (outHit_eq h0 h1).1 e
    rw [h b hb r hr] at hh; cases hh
theorem outF_out {d : Int} {l : List RouteV} (h : d < 0 ∨ 15 < d) : outF d l = (0, -1) := by
  have : ∀ (l : List RouteV) (s : Int × Int), l.foldl (outStep d) s = s := by
    intro l
    induction l with
    | nil => intro s; rfl
    | cons a l ih =>
      intro s
      have : outStep d s a = s := by
        unfold outStep
        rw [if_neg]
        simp only [outHit, Bool.and_eq_true, decide_eq_true_eq]
        omega
      rw [List.foldl_cons, this]; exact ih s
  exact this l _
theorem outF_lead' {d : Int} (h0 : 0 ≤ d) (h1 : d ≤ 15) {b : Nat} (hb : b ≤ 4) {r : RouteV} : ∀ (l : List RouteV) (s : Int × Int) (i : Nat), s.2 < b → l[i]? = some r → hitR d b r = true → (∀ j x, j < i → l[j]? = some x → hitR d b x = false) →
    (∀ b' : Nat, b < b' → b' ≤ 4 → ∀ x ∈ l, hitR d b' x = false) → l.foldl (outStep d) s = (r.p, (b : Int)) := by
  intro l
  induction l with
  | nil => intro s i _ h; simp at h
  | cons a l ih =>
    intro s i hs hi hr hj hbig
    rw [List.foldl_cons]
    have hrb : r.b = (b : Int) := by
      simp only [hitR, Bool.and_eq_true, beq_iff_eq] at hr
      exact hr.1.2
    match i, hi with
    | 0, hi =>
      have : a = r := by simpa using hi
      subst this
      have e : outStep d s a = (a.p, (b : Int)) := by
        unfold outStep
        rw [(outHit_eq h0 h1).2 ⟨by omega, b, hb, hrb, hr⟩, hrb]; rfl
      rw [e]
      refine fold_out h0 h1 l _ (fun x hx => ?_)
      cases ex : outHit d x (b : Int)
      · rfl
      · obtain ⟨hlt, b', hb', e', hh⟩ := (outHit_eq h0 h1).1 ex
        rw [hbig b' (by omega) hb' x (by simp [hx])] at hh; cases hh
    | i + 1, hi =>
      refine ih _ i ?_ (by simpa using hi) hr (fun j x hjx hx => hj (j + 1) x (by omega) (by simpa using hx)) (fun b' h2 h3 x hx => hbig b' h2 h3 x (by simp [hx]))
      unfold outStep
      split
      · rename_i hh
        obtain ⟨_, b', hb', e', hh⟩ := (outHit_eq h0 h1).1 hh
        rcases Nat.lt_trichotomy b' b with h | h | h
        · show a.b < b; omega
        · subst h
          rw [hj 0 a (by omega) (by simp)] at hh; cases hh
        · rw [hbig b' h hb' a (by simp)] at hh; cases hh
      · exact hs
theorem outF_lead {d : Int} (h0 : 0 ≤ d) (h1 : d ≤ 15) {b : Nat} (hb : b ≤ 4) {r : RouteV} {l : List RouteV} {i : Nat} (hi : l[i]? = some r) (hr : hitR d b r = true) (hj : ∀ j x, j < i → l[j]? = some x → hitR d b x = false)
    (hbig : ∀ b' : Nat, b < b' → b' ≤ 4 → ∀ x ∈ l, hitR d b' x = false) : outF d l = (r.p, (b : Int)) := outF_lead' h0 h1 hb l (0, -1) i (by show (-1 : Int) < b; omega) hi hr hj hbig
theorem quiet_same' {P : Program} {f : FuncId} {args : Array Value} {w : World} {n : Nat} {v : Value} (h : Calls P f args (w.drewN n) fun e w' => e = .returned v ∧ w.drewN n = w') : Calls P f args (w.drewN n) fun e w'' => e = .returned v ∧ ∃ m, w'' = w.drewN m :=
  h.mono fun _ _ ⟨he, hm⟩ => ⟨he, n, hm.symm⟩
theorem ret_bool {a b : Bool} (h : a = b) : Ending.returned (.bool a) = .returned (.bool b) := by rw [h]
theorem top_walk (d : Int) (b : Nat) (W : World) (h0 : 0 ≤ d) (h1 : d ≤ 15) (hb : b ≤ 4) (r : Int) (hr : topI d b = r) :
    Calls Tryz.prog 102 #[.int .i64 d, .int .i64 (b : Int)] W fun e W' => e = .returned (.int .i64 r) ∧ W = W' := by
  have HR := hide hr
  clear hr
  match b, hb with
  | 0, _ | 1, _ | 2, _ | 3, _ | 4, _ =>
    go_enter Tryz.func102, Tryz.ntmps102
    go_wp2
    go_ret
    refine ⟨ret_i64' ?_, rfl⟩
    rw [← HR.out]
    simp [topI]
theorem inR_is {n lo hi : Int} {B : Bool} (W : World) (h : inR n lo hi = B) : Calls Tryz.prog 7 #[.int .i64 n, .int .i64 lo, .int .i64 hi] W fun e W' => e = .returned (.bool B) ∧ W = W' := h ▸ inR_walk n lo hi W
theorem rightR_walk (v b p : Int) (W : World) (hv : i64ok v) (hb : i64ok b) (hp : i64ok p) : Calls Tryz.prog 101 #[.agg #[.int .i64 v, .int .i64 b, .int .i64 p]] W fun e W' => e = .returned (.bool (routeB v b p)) ∧ Below W.heap.size W W' := by
  obtain ⟨hv1, hv2⟩ := hv
  obtain ⟨hb1, hb2⟩ := hb
  obtain ⟨hp1, hp2⟩ := hp
  cases e1 : inR b 0 4
  · have e1' := e1
    simp only [inR, Bool.and_eq_false_iff, decide_eq_false_iff_not] at e1'
    have HF := hide (show routeB v b p = false from by simp [routeB]; omega)
    rw [HF.out]
    go_enter Tryz.func101, Tryz.ntmps101
    go_wp2
    go_quiet ((first | (go_at_call_of 7 (Value.int .i64 4); exact quiet_same' (inR_is _ e1)) | (go_at_call_of 7 (Value.int .i64 15); exact quiet_same' (inR_is _ e2)) | (go_at_call 102; exact quiet_same' (HT.out _)) | (go_at_call_of 7 (Value.int .i64 3); exact quiet_same' (inR_is _ e4))))
    go_wp2
    go_ret
    exact ⟨rfl, ((Below.refl _ _).alloc (Nat.le_refl _) _).trans ⟨rfl, rfl, rfl, Nat.le_refl _, fun _ _ => rfl⟩⟩
  have e1' := e1
  simp only [inR, Bool.and_eq_true, decide_eq_true_eq] at e1'
  obtain ⟨hb3, hb4⟩ := e1'
  obtain ⟨bn, rfl⟩ : ∃ n : Nat, b = (n : Int) := ⟨b.toNat, by omega⟩
  cases e2 : inR v 0 15
  · have e2' := e2
    simp only [inR, Bool.and_eq_false_iff, decide_eq_false_iff_not] at e2'
    have HF := hide (show routeB v bn p = false from by simp [routeB]; omega)
    rw [HF.out]
    go_enter Tryz.func101, Tryz.ntmps101
    go_wp2
    go_quiet ((first | (go_at_call_of 7 (Value.int .i64 4); exact quiet_same' (inR_is _ e1)) | (go_at_call_of 7 (Value.int .i64 15); exact quiet_same' (inR_is _ e2)) | (go_at_call 102; exact quiet_same' (HT.out _)) | (go_at_call_of 7 (Value.int .i64 3); exact quiet_same' (inR_is _ e4))))
    go_wp2
    go_ret
    exact ⟨rfl, ((Below.refl _ _).alloc (Nat.le_refl _) _).trans ⟨rfl, rfl, rfl, Nat.le_refl _, fun _ _ => rfl⟩⟩
  have e2' := e2
  simp only [inR, Bool.and_eq_true, decide_eq_true_eq] at e2'
  obtain ⟨hv3, hv4⟩ := e2'
  obtain ⟨r, hr⟩ : ∃ r, topI v bn = r := ⟨_, rfl⟩
  have HM := hide (top_mask v bn hv3 hv4 (by omega))
  rw [hr] at HM
  have HT : Hid (∀ w1, Calls Tryz.prog 102 #[.int .i64 v, .int .i64 (bn : Int)] w1 fun e W' => e = .returned (.int .i64 r) ∧ w1 = W') := hide (fun w1 => top_walk v bn w1 hv3 hv4 (by omega) r hr)
  clear hr
  cases e3 : (r == v)
  · have HF := hide (show routeB v bn p = false from by simp [routeB]; rw [← HM.out, e3]; simp)
    rw [HF.out]
    go_enter Tryz.func101, Tryz.ntmps101
    go_wp2
    go_quiet ((first | (go_at_call_of 7 (Value.int .i64 4); exact quiet_same' (inR_is _ e1)) | (go_at_call_of 7 (Value.int .i64 15); exact quiet_same' (inR_is _ e2)) | (go_at_call 102; exact quiet_same' (HT.out _)) | (go_at_call_of 7 (Value.int .i64 3); exact quiet_same' (inR_is _ e4))))
    go_wp2
    go_ret
    exact ⟨rfl, ((Below.refl _ _).alloc (Nat.le_refl _) _).trans ⟨rfl, rfl, rfl, Nat.le_refl _, fun _ _ => rfl⟩⟩
  cases e4 : inR p 0 3
  · have e4' := e4
    simp only [inR, Bool.and_eq_false_iff, decide_eq_false_iff_not] at e4'
    have HF := hide (show routeB v bn p = false from by simp [routeB]; omega)
    rw [HF.out]
    go_enter Tryz.func101, Tryz.ntmps101
    go_wp2
    go_quiet ((first | (go_at_call_of 7 (Value.int .i64 4); exact quiet_same' (inR_is _ e1)) | (go_at_call_of 7 (Value.int .i64 15); exact quiet_same' (inR_is _ e2)) | (go_at_call 102; exact quiet_same' (HT.out _)) | (go_at_call_of 7 (Value.int .i64 3); exact quiet_same' (inR_is _ e4))))
    go_wp2
    go_ret
    exact ⟨rfl, ((Below.refl _ _).alloc (Nat.le_refl _) _).trans ⟨rfl, rfl, rfl, Nat.le_refl _, fun _ _ => rfl⟩⟩
  · have e4' := e4
    simp only [inR, Bool.and_eq_true, decide_eq_true_eq] at e4'
    have HF := hide (show routeB v bn p = true from by simp [routeB]; rw [← HM.out, e3]; simp; omega)
    rw [HF.out]
    go_enter Tryz.func101, Tryz.ntmps101
    go_wp2
    go_quiet ((first | (go_at_call_of 7 (Value.int .i64 4); exact quiet_same' (inR_is _ e1)) | (go_at_call_of 7 (Value.int .i64 15); exact quiet_same' (inR_is _ e2)) | (go_at_call 102; exact quiet_same' (HT.out _)) | (go_at_call_of 7 (Value.int .i64 3); exact quiet_same' (inR_is _ e4))))
    go_wp2
    go_ret
    exact ⟨rfl, ((Below.refl _ _).alloc (Nat.le_refl _) _).trans ⟨rfl, rfl, rfl, Nat.le_refl _, fun _ _ => rfl⟩⟩
theorem rightR_is (v b p : Int) (W : World) (B : Bool) (hv : i64ok v) (hb : i64ok b) (hp : i64ok p) (h : routeB v b p = B) : Calls Tryz.prog 101 #[.agg #[.int .i64 v, .int .i64 b, .int .i64 p]] W fun e W' => e = .returned (.bool B) ∧ Below W.heap.size W W' :=
  h ▸ rightR_walk v b p W hv hb hp
theorem below_drew (w : World) (n : Nat) (B : Nat) : Below B w (w.drewN n) := ⟨rfl, rfl, rfl, Nat.le_refl _, fun _ _ => rfl⟩
theorem routes_walk (l : List RouteV) (b o n c : Nat) (W : World) (hn : n ≤ 8) (hnc : n ≤ c) (hl : SlAt RouteV.cells 3 W W.heap.size (some ⟨b, o, none⟩) n l) (hok : ∀ r ∈ l, r.ok) (h0 : 0 < n) :
    Calls Tryz.prog 62 #[.slice (some ⟨b, o, none⟩) n c] W fun e W' => e = .returned (.int .i64 (chkF [] l)) ∧ Below W.heap.size W W' := by
  have HL := hide hl
  have HK := hide hok
  clear hl hok
  have h8 : decide ((8 : Int) < (n : Int)) = false := by simp; omega
  go_enter Tryz.func62, Tryz.ntmps62
  go_wp2
  go_loopw [3] (fun i wr => ∃ k : Nat, k ≤ n ∧ i = .int .i64 k ∧ Hid (chkF [] l = chkF (l.take k) (l.drop k)) ∧ Below W.heap.size W wr) (fun i _ => n - (intOf i).toNat)
  case atStart => exact ⟨0, Nat.zero_le _, rfl, rfl, Below.refl _ _⟩
  case round =>
    obtain ⟨k, hk, rfl, HC, hb⟩ := hrel
    have HB := hide hb
    clear hb
    by_cases hlt : k < n
    · obtain ⟨r, hr⟩ : ∃ r, l[k]? = some r := ⟨_, List.getElem?_eq_getElem (by have := HL.out.1; omega)⟩
      obtain ⟨hbB, hra⟩ := route_get HL.out hr
      have HRA := hide hra
      obtain ⟨q0, q1, q2⟩ := hra.below HB.out hbB
      have HS := hide (chkF_step hr)
      obtain ⟨⟨hv1, hv2⟩, ⟨hbb1, hbb2⟩, ⟨hp1, hp2⟩⟩ := HK.out r (List.mem_of_getElem? hr)
      clear hr hra
      obtain ⟨rv, rb, rp⟩ := r
      cases h1 : routeB rv rb rp
      · go_wp2_with fail
        refine (rightR_is _ _ _ _ _ ⟨hv1, hv2⟩ ⟨hbb1, hbb2⟩ ⟨hp1, hp2⟩ h1).mono ?_
        rintro e w1 ⟨rfl, hb1⟩
        have HB1 := hide (HB.out.trans (hb1.mono HB.out.size))
        clear hb1
        go_wp2
        go_ret
        exact ⟨ret_i64' (by rw [HC.out, HS.out]; simp [h1]), HB1.out⟩
      · go_wp2_with fail
        refine (rightR_is _ _ _ _ _ ⟨hv1, hv2⟩ ⟨hbb1, hbb2⟩ ⟨hp1, hp2⟩ h1).mono ?_
        rintro e w1 ⟨rfl, hb1⟩
        have HB1 := hide (HB.out.trans (hb1.mono HB.out.size))
        clear hb1 q0 q1 q2
        go_wp2
        go_loopw [4] (fun i wi => ∃ j : Nat, j ≤ k ∧ i = .int .i64 j ∧ Hid (∀ i x, i < j → l[i]? = some x → sameR ⟨rv, rb, rp⟩ x = false) ∧ Below W.heap.size W wi) (fun i _ => k - (intOf i).toNat)
        case atStart => exact ⟨0, Nat.zero_le _, rfl, fun i x h => absurd h (by omega), HB1.out⟩
        case round =>
          obtain ⟨j, hj, rfl, HN, hbi⟩ := hrel
          have HBI := hide hbi
          clear hbi HB1
          by_cases hjk : j < k
          · obtain ⟨x, hx⟩ : ∃ x, l[j]? = some x := ⟨_, List.getElem?_eq_getElem (by have := HL.out.1; omega)⟩
            obtain ⟨hbB', hxa⟩ := route_get HL.out hx
            obtain ⟨y0, y1, y2⟩ := hxa.below HBI.out hbB'
            obtain ⟨z0, z1, z2⟩ := HRA.out.below HBI.out hbB
            have HXJ := hide hx
            clear hx hxa
            obtain ⟨xv, xb, xp⟩ := x
            cases e1 : (xv == rv)
            · go_wp2
              go_quiet (fail)
              go_wp2
              go_roundw
              case rel => exact ⟨j + 1, by omega, by go_num, hide (fun i x hi hx => by
                rcases (by omega : i < j ∨ i = j) with h | rfl
                · exact HN.out i x h hx
                · have e := HXJ.out; rw [e] at hx; cases hx; simp [sameR, e1]), HBI.out.trans (below_drew _ _ _)⟩
              case measure => simp [intOf]; omega
            cases e2 : (xb == rb)
            · go_wp2
              go_quiet (fail)
              go_wp2
              go_roundw
              case rel => exact ⟨j + 1, by omega, by go_num, hide (fun i x hi hx => by
                rcases (by omega : i < j ∨ i = j) with h | rfl
                · exact HN.out i x h hx
                · have e := HXJ.out; rw [e] at hx; cases hx; simp [sameR, e2]), HBI.out.trans (below_drew _ _ _)⟩
              case measure => simp [intOf]; omega
            have HA := hide (any_take (r := ⟨rv, rb, rp⟩) hjk HXJ.out (by simp [sameR, e1, e2]))
            go_wp2
            go_quiet (fail)
            go_wp2
            go_ret
            exact ⟨ret_i64' (by rw [HC.out, HS.out, HA.out]; simp [h1]), HBI.out.trans (below_drew _ _ _)⟩
          · have hjk' : j = k := by omega
            subst hjk'
            have HA := hide (any_take_none (r := ⟨rv, rb, rp⟩) HN.out)
            go_wp2
            go_roundw
            case rel => exact ⟨j + 1, by omega, by go_num, hide (by rw [HC.out, HS.out, HA.out]; simp [h1]), HBI.out⟩
            case measure => simp [intOf]; omega
    · have hkn : k = n := by omega
      subst hkn
      have HT := hide (show chkF (l.take k) (l.drop k) = 0 from by rw [List.drop_of_length_le (by have := HL.out.1; omega)]; rfl)
      go_wp2
      go_ret
      exact ⟨ret_i64' (by rw [HC.out, HT.out]), HB.out⟩
theorem routes_nil (A : Option Addr) (c : Nat) (W : World) : Calls Tryz.prog 62 #[.slice A 0 c] W fun e W' => e = .returned (.int .i64 0) ∧ W = W' := by
  go_enter Tryz.func62, Tryz.ntmps62
  go_wp2
  refine wp_loop_rounds 1 ?_
  rw [rounds_succ]
  go_wp2
  go_ret
  exact ⟨rfl, rfl⟩
theorem routes_large (A : Option Addr) (n c : Nat) (W : World) (h : 8 < n) : Calls Tryz.prog 62 #[.slice A n c] W fun e W' => e = .returned (.int .i64 2) ∧ W = W' := by
  have h8 : decide ((8 : Int) < (n : Int)) = true := by simp; omega
  go_enter Tryz.func62, Tryz.ntmps62
  go_wp2
  go_ret
  exact ⟨rfl, rfl⟩
theorem routes_any (l : List RouteV) (A : Option Addr) (n c : Nat) (W : World) (hnc : n ≤ c) (hl : SlAt RouteV.cells 3 W W.heap.size A n l) (hok : ∀ r ∈ l, r.ok) :
    Calls Tryz.prog 62 #[.slice A n c] W fun e W' => e = .returned (.int .i64 (checkF l)) ∧ Below W.heap.size W W' := by
  rcases Nat.eq_zero_or_pos n with rfl | h0
  · have : l = [] := List.eq_nil_of_length_eq_zero hl.1
    subst this
    exact (routes_nil A c W).mono fun e w' ⟨he, hw⟩ => ⟨he, hw ▸ Below.refl _ _⟩
  · rcases Nat.lt_or_ge 8 n with h8 | h8
    · have e : checkF l = 2 := by unfold checkF; rw [if_pos (by rw [hl.1]; exact h8)]
      rw [e]
      exact (routes_large A n c W h8).mono fun e w' ⟨he, hw⟩ => ⟨he, hw ▸ Below.refl _ _⟩
    · have e : checkF l = chkF [] l := by unfold checkF; rw [if_neg (by rw [hl.1]; omega)]
      rw [e]
      obtain ⟨b, o, rfl, hb, _⟩ := hl.2 h0
      exact routes_walk l b o n c W h8 hnc hl hok h0
theorem top_is (d : Int) (b : Nat) (W : World) (h0 : 0 ≤ d) (h1 : d ≤ 15) (hb : b ≤ 4) (r : Int) (x : Int) (hx : x = (b : Int)) (hr : topI d b = r) :
    Calls Tryz.prog 102 #[.int .i64 d, .int .i64 x] W fun e W' => e = .returned (.int .i64 r) ∧ W = W' := hx ▸ top_walk d b W h0 h1 hb r hr
theorem hitR_eq {d : Int} {b : Nat} {v q p x tv : Int} (hx : x = (b : Int)) (ht : topI d b = tv) : hitR d b ⟨v, q, p⟩ = (routeB v q p && (q == x) && (tv == v)) := by subst hx; subst ht; rfl
def OutP (l : List RouteV) (d : Int) (W : World) (e : Ending) (W' : World) : Prop := e = .returned (.tuple #[.int .i64 (outF d l).1, .bool (decide (0 ≤ (outF d l).2))]) ∧ Below W.heap.size W W'
theorem refOut_walk (l : List RouteV) (b o n c : Nat) (d : Int) (W : World) (hn : n ≤ 9223372036854775807) (hd0 : 0 ≤ d) (hd1 : d ≤ 15) (hl : SlAt RouteV.cells 3 W W.heap.size (some ⟨b, o, none⟩) n l) (hok : ∀ r ∈ l, r.ok) (h0 : 0 < n) :
    Calls Tryz.prog 65 #[.slice (some ⟨b, o, none⟩) n c, .int .i64 d] W (OutP l d W) := by
  have HL := hide hl
  have HK := hide hok
  have hin : inR d 0 15 = true := by simp [inR]; omega
  clear hl hok
  go_enter Tryz.func65, Tryz.ntmps65
  go_wp2
  go_loopw [6] (fun u wr => ∃ x : Int, -1 ≤ x ∧ x ≤ 4 ∧ u = .int .i64 x ∧ Hid (∀ b' : Nat, x < b' → b' ≤ 4 → ∀ r ∈ l, hitR d b' r = false) ∧ Below W.heap.size W wr) (fun u _ => (intOf u + 1).toNat)
  case atStart => exact ⟨4, by omega, by omega, rfl, hide (fun b' h1 h2 => by omega), Below.refl _ _⟩
  case round =>
    obtain ⟨x, hx1, hx2, rfl, HN, hb⟩ := hrel
    have HB := hide hb
    clear hb
    by_cases hx0 : 0 ≤ x
    · obtain ⟨bn, hbn⟩ : ∃ m : Nat, x = (m : Int) := ⟨x.toNat, by omega⟩
      have HBN := hide hbn
      clear hbn
      go_wp2_with (go_at_call 7; refine (inR_is _ hin).mono ?_; rintro e w' ⟨rfl, rfl⟩)
      go_loopw [7] (fun i wi => ∃ j : Nat, j ≤ n ∧ i = .int .i64 j ∧ Hid (∀ i r, i < j → l[i]? = some r → hitR d bn r = false) ∧ Below W.heap.size W wi) (fun i _ => n - (intOf i).toNat)
      case atStart => exact ⟨0, Nat.zero_le _, rfl, hide (fun i r h => absurd h (by omega)), HB.out⟩
      case round =>
        obtain ⟨j, hj, rfl, HJ, hbi⟩ := hrel
        have HBI := hide hbi
        clear hbi HB
        by_cases hlt : j < n
        · obtain ⟨r, hr⟩ : ∃ r, l[j]? = some r := ⟨_, List.getElem?_eq_getElem (by have := HL.out.1; omega)⟩
          obtain ⟨hbB, hra⟩ := route_get HL.out hr
          have HRA := hide (hra.below HBI.out hbB)
          have HR := hide hr
          obtain ⟨⟨hv1, hv2⟩, ⟨hbb1, hbb2⟩, ⟨hp1, hp2⟩⟩ := HK.out r (List.mem_of_getElem? hr)
          have hsz := HBI.out.size
          clear hr hra
          obtain ⟨rv, rb, rp⟩ := r
          obtain ⟨tv, htv⟩ : ∃ t, topI d bn = t := ⟨_, rfl⟩
          have HTV := hide htv
          clear htv
          go_wp2_with fail
          refine wp_region_abs (by kernel_rfl) (by kernel_rfl) ?_
          intro T hT g hg hgi
          have HG := hide hg
          have HI := hide hgi
          have k0 : ∀ t, (g t).cell? ⟨b, o + j * 3, none⟩ = some (.int .i64 rv) := fun t => ((HG.out t).cell (p := ⟨b, o + j * 3, none⟩) (by show b < _; omega)).trans HRA.out.1
          have k1 : ∀ t, (g t).cell? ⟨b, o + j * 3 + 1, none⟩ = some (.int .i64 rb) := fun t => ((HG.out t).cell (p := ⟨b, o + j * 3 + 1, none⟩) (by show b < _; omega)).trans HRA.out.2.1
          have k2 : ∀ t, (g t).cell? ⟨b, o + j * 3 + 2, none⟩ = some (.int .i64 rp) := fun t => ((HG.out t).cell (p := ⟨b, o + j * 3 + 2, none⟩) (by show b < _; omega)).trans HRA.out.2.2
          have HBx := hide (fun t => HBI.out.trans ((HG.out t).mono HBI.out.size))
          clear hg hgi
          cases h1 : routeB rv rb rp
          · repeat (go_big_quiet_step ((first | (go_at_call 101; exact inAbs HG.out HI.out (rightR_is _ _ _ _ _ ⟨hv1, hv2⟩ ⟨hbb1, hbb2⟩ ⟨hp1, hp2⟩ h1)) | (go_at_call 102; exact inAbsSame (top_is d bn _ hd0 hd1 (by have := HBN.out; omega) tv x HBN.out HTV.out)))))
            refine wpQuiet_nil ?_
            intro _ hw'
            obtain ⟨t, rfl⟩ := hw'
            have HM := hide ((hitR_eq (v := rv) (q := rb) (p := rp) HBN.out HTV.out).trans (show _ = false by rw [h1]; simp))
            go_wp2
            go_roundw
            case rel => exact ⟨j + 1, by omega, by go_num, hide (fun i r hi hr => by
              rcases (by omega : i < j ∨ i = j) with h | rfl
              · exact HJ.out i r h hr
              · have e := HR.out; rw [e] at hr; cases hr; exact HM.out), HBx.out t⟩
            case measure => simp [intOf]; omega
          cases h2 : (rb == x)
          · repeat (go_big_quiet_step ((first | (go_at_call 101; exact inAbs HG.out HI.out (rightR_is _ _ _ _ _ ⟨hv1, hv2⟩ ⟨hbb1, hbb2⟩ ⟨hp1, hp2⟩ h1)) | (go_at_call 102; exact inAbsSame (top_is d bn _ hd0 hd1 (by have := HBN.out; omega) tv x HBN.out HTV.out)))))
            refine wpQuiet_nil ?_
            intro _ hw'
            obtain ⟨t, rfl⟩ := hw'
            have HM := hide ((hitR_eq (v := rv) (q := rb) (p := rp) HBN.out HTV.out).trans (show _ = false by rw [h2]; simp))
            go_wp2
            go_roundw
            case rel => exact ⟨j + 1, by omega, by go_num, hide (fun i r hi hr => by
              rcases (by omega : i < j ∨ i = j) with h | rfl
              · exact HJ.out i r h hr
              · have e := HR.out; rw [e] at hr; cases hr; exact HM.out), HBx.out t⟩
            case measure => simp [intOf]; omega
          cases h3 : (tv == rv)
          · repeat (go_big_quiet_step ((first | (go_at_call 101; exact inAbs HG.out HI.out (rightR_is _ _ _ _ _ ⟨hv1, hv2⟩ ⟨hbb1, hbb2⟩ ⟨hp1, hp2⟩ h1)) | (go_at_call 102; exact inAbsSame (top_is d bn _ hd0 hd1 (by have := HBN.out; omega) tv x HBN.out HTV.out)))))
            refine wpQuiet_nil ?_
            intro _ hw'
            obtain ⟨t, rfl⟩ := hw'
            have HM := hide ((hitR_eq (v := rv) (q := rb) (p := rp) HBN.out HTV.out).trans (show _ = false by rw [h3]; simp))
            go_wp2
            go_roundw
            case rel => exact ⟨j + 1, by omega, by go_num, hide (fun i r hi hr => by
              rcases (by omega : i < j ∨ i = j) with h | rfl
              · exact HJ.out i r h hr
              · have e := HR.out; rw [e] at hr; cases hr; exact HM.out), HBx.out t⟩
            case measure => simp [intOf]; omega
          have HF := hide (outF_lead hd0 hd1 (b := bn) (by have := HBN.out; omega) HR.out ((hitR_eq (v := rv) (q := rb) (p := rp) HBN.out HTV.out).trans (by rw [h1, h2, h3]; rfl)) HJ.out (fun b' hb' hb4 y hy => HN.out b' (by have := HBN.out; omega) hb4 y hy))
          repeat (go_big_quiet_step ((first | (go_at_call 101; exact inAbs HG.out HI.out (rightR_is _ _ _ _ _ ⟨hv1, hv2⟩ ⟨hbb1, hbb2⟩ ⟨hp1, hp2⟩ h1)) | (go_at_call 102; exact inAbsSame (top_is d bn _ hd0 hd1 (by have := HBN.out; omega) tv x HBN.out HTV.out)))))
          refine wpQuiet_nil ?_
          intro _ hw'
          obtain ⟨t, rfl⟩ := hw'
          go_wp2
          go_ret2
          exact ⟨by rw [HF.out]; simp, HBx.out t⟩
        · have hjn : j = n := by omega
          have HA := hide (show ∀ b' : Nat, x - 1 < b' → b' ≤ 4 → ∀ r ∈ l, hitR d b' r = false from fun b' h1 h2 r hr => by
            rcases (by have := HBN.out; omega : b' = bn ∨ x < b') with h | h
            · obtain ⟨i, hi⟩ := List.getElem?_of_mem hr
              rw [h]
              exact HJ.out i r (by have := (List.getElem?_eq_some_iff.1 hi).1; have := HL.out.1; omega) hi
            · exact HN.out b' h h2 r hr)
          go_wp2
          go_roundw
          case rel => exact ⟨x - 1, by omega, by omega, rfl, HA, HBI.out⟩
          case measure => simp [intOf]; omega
    · have HF := hide (outF_none' (l := l) (fun b' h2 r hr => HN.out b' (by omega) h2 r hr) hd0 hd1)
      go_wp2
      go_ret2
      exact ⟨by rw [HF.out]; simp, HB.out⟩
theorem refOut_out (l : List RouteV) (A : Option Addr) (n c : Nat) (d : Int) (W : World) (hd : d < 0 ∨ 15 < d) :
    Calls Tryz.prog 65 #[.slice A n c, .int .i64 d] W (OutP l d W) := by
  have HF := hide (outF_out (l := l) hd)
  have hin : inR d 0 15 = false := by simp [inR]; omega
  clear hd
  go_enter Tryz.func65, Tryz.ntmps65
  go_wp2
  refine wp_loop_rounds 1 ?_
  rw [rounds_succ]
  go_wp2_with (go_at_call 7; refine (inR_is _ hin).mono ?_; rintro e w' ⟨rfl, rfl⟩)
  go_ret2
  exact ⟨by rw [HF.out]; simp, Below.refl _ _⟩
theorem refOut_nil (A : Option Addr) (c : Nat) (d : Int) (W : World) (hd0 : 0 ≤ d) (hd1 : d ≤ 15) :
    Calls Tryz.prog 65 #[.slice A 0 c, .int .i64 d] W (OutP [] d W) := by
  have hin : inR d 0 15 = true := by simp [inR]; omega
  go_enter Tryz.func65, Tryz.ntmps65
  go_wp2
  go_loopw [6] (fun u wr => ∃ x : Int, -1 ≤ x ∧ x ≤ 4 ∧ u = .int .i64 x ∧ Below W.heap.size W wr) (fun u _ => (intOf u + 1).toNat)
  case atStart => exact ⟨4, by omega, by omega, rfl, Below.refl _ _⟩
  case round =>
    obtain ⟨x, hx1, hx2, rfl, hb⟩ := hrel
    have HB := hide hb
    clear hb
    by_cases hx0 : 0 ≤ x
    · go_wp2_with (go_at_call 7; refine (inR_is _ hin).mono ?_; rintro e w' ⟨rfl, rfl⟩)
      refine wp_loop_rounds 1 ?_
      rw [rounds_succ]
      go_wp2
      go_roundw
      case rel => exact ⟨x - 1, by omega, by omega, rfl, HB.out⟩
      case measure => simp [intOf]; omega
    · go_wp2
      go_ret2
      exact ⟨rfl, HB.out⟩
theorem refOut_any (l : List RouteV) (A : Option Addr) (n c : Nat) (d : Int) (W : World) (hn : n ≤ 9223372036854775807) (hl : SlAt RouteV.cells 3 W W.heap.size A n l) (hok : ∀ r ∈ l, r.ok) :
    Calls Tryz.prog 65 #[.slice A n c, .int .i64 d] W (OutP l d W) := by
  by_cases h : d < 0 ∨ 15 < d
  · exact refOut_out l A n c d W h
  · rcases Nat.eq_zero_or_pos n with rfl | h0
    · have : l = [] := List.eq_nil_of_length_eq_zero hl.1
      subst this
      exact refOut_nil A c d W (by omega) (by omega)
    · obtain ⟨b, o, rfl, hb, _⟩ := hl.2 h0
      exact refOut_walk l b o n c d W hn (by omega) (by omega) hl hok h0
end Go.Proofs.YtifkacnoiocebaaGreat
namespace Go.Proofs.YtifkacnoiocebaaGreat
open Go.RowKit
theorem hasI_walk (w : World) (set : Nat) (n : Int) (hs : set < 65536) (B : Bool) (hB : hasB set n = B) :
    Calls Tryz.prog 68 #[.int .i64 set, .int .i64 n] w fun e W' => e = .returned (.bool B) ∧ w = W' := by
  cases h1 : inR n 0 15
  · have HB := hide (show B = false from by
      rw [← hB]; simp only [inR, Bool.and_eq_false_iff, decide_eq_false_iff_not] at h1; simp [hasB]; omega)
    rw [HB.out]
    clear hB
    go_enter Tryz.func68, Tryz.ntmps68
    go_wp2_with fail
    refine (inR_walk _ _ _ _).mono ?_
    rintro e w' ⟨rfl, rfl⟩
    rw [h1]
    go_wp2
    go_ret
    exact ⟨rfl, rfl⟩
  · have h2 := h1
    simp only [inR, Bool.and_eq_true, decide_eq_true_eq] at h2
    obtain ⟨h3, h4⟩ := h2
    obtain ⟨k, rfl⟩ : ∃ k : Nat, n = (k : Int) := ⟨n.toNat, by omega⟩
    refine has_walk w set k hs (by omega) B ?_
    rw [← hB]
    have : (k : Int) < 16 := by omega
    simp [hasB, this]
theorem refHas_walk (m : M4) (p : P4) (w : World) (hm : m.ok) (B : Bool) (hB : inB m p = B) :
    Calls Tryz.prog 40 #[.agg #[.int .u16 m.src, .int .u16 m.dst, .int .u8 m.sport, .int .u8 m.dport], .agg #[.int .i64 p.src, .int .i64 p.dst, .int .i64 p.sport, .int .i64 p.dport]] w fun e W' => e = .returned (.bool B) ∧ Below w.heap.size w W' := by
  have HB : Hid (∀ o0 o1, Below w.heap.size w ((w.alloc o0).alloc o1)) := hide (fun o0 o1 => ((Below.refl _ _).alloc (Nat.le_refl _) o0).alloc (by simp) o1)
  have HF := hide (show (hasB m.src p.src && hasB m.dst p.dst && hasB m.sport p.sport && hasB m.dport p.dport) = B from hB)
  clear hB
  obtain ⟨ms, md, mp, mq⟩ := m
  obtain ⟨ps, pd, pp, pq⟩ := p
  have h1 : ms < 65536 := hm.1
  have h2 : md < 65536 := hm.2.1
  have h3 : mp < 256 := hm.2.2.1
  have h4 : mq < 256 := hm.2.2.2
  clear hm
  cases e1 : hasB ms ps
  · rw [← HF.out, e1]
    go_enter Tryz.func40, Tryz.ntmps40
    go_wp2_with (go_at_call 68; refine (hasI_walk _ _ _ (by omega) _ rfl).mono ?_; rintro e w' ⟨rfl, rfl⟩)
    go_ret
    exact ⟨by simp [*], HB.out _ _⟩
  cases e2 : hasB md pd
  · rw [← HF.out, e1, e2]
    go_enter Tryz.func40, Tryz.ntmps40
    go_wp2_with (go_at_call 68; refine (hasI_walk _ _ _ (by omega) _ rfl).mono ?_; rintro e w' ⟨rfl, rfl⟩)
    go_ret
    exact ⟨by simp [*], HB.out _ _⟩
  cases e3 : hasB mp pp
  · rw [← HF.out, e1, e2, e3]
    go_enter Tryz.func40, Tryz.ntmps40
    go_wp2_with (go_at_call 68; refine (hasI_walk _ _ _ (by omega) _ rfl).mono ?_; rintro e w' ⟨rfl, rfl⟩)
    go_ret
    exact ⟨by simp [*], HB.out _ _⟩
  cases e4 : hasB mq pq
  · rw [← HF.out, e1, e2, e3, e4]
    go_enter Tryz.func40, Tryz.ntmps40
    go_wp2_with (go_at_call 68; refine (hasI_walk _ _ _ (by omega) _ rfl).mono ?_; rintro e w' ⟨rfl, rfl⟩)
    go_ret
    exact ⟨by simp [*], HB.out _ _⟩
  · rw [← HF.out, e1, e2, e3, e4]
    go_enter Tryz.func40, Tryz.ntmps40
    go_wp2_with (go_at_call 68; refine (hasI_walk _ _ _ (by omega) _ rfl).mono ?_; rintro e w' ⟨rfl, rfl⟩)
    go_ret
    exact ⟨by simp [*], HB.out _ _⟩
theorem refLets_walk (l : List RuleV) (b o n c : Nat) (p : P4) (W : World) (hn : n ≤ 9223372036854775807) (hl : RulesAt W W.heap.size (some ⟨b, o, none⟩) n l) :
    Calls Tryz.prog 66 #[.slice (some ⟨b, o, none⟩) n c, .agg #[.int .i64 p.src, .int .i64 p.dst, .int .i64 p.sport, .int .i64 p.dport]] W fun e W' => e = .returned (.bool (letsB l p)) ∧ Below W.heap.size W W' := by
  have HL := hide hl
  have hb0 : Below W.heap.size W (W.alloc (.cells #[.int .i64 p.src, .int .i64 p.dst, .int .i64 p.sport, .int .i64 p.dport] 29)) := (Below.refl _ _).alloc (Nat.le_refl _) _
  have hpa : PackAt (W.alloc (.cells #[.int .i64 p.src, .int .i64 p.dst, .int .i64 p.sport, .int .i64 p.dport] 29)) W.heap.size p := ⟨by simp, by simp, by simp, by simp⟩
  have HB0 := hide hb0
  have HP := hide hpa
  clear hl hb0 hpa
  go_enter Tryz.func66, Tryz.ntmps66
  go_wp2
  go_loopw [5] (fun i wr => ∃ k : Nat, k ≤ n ∧ i = .int .i64 k ∧ Hid (∀ j r, j < k → l[j]? = some r → inB r.m p = false) ∧ Below W.heap.size W wr ∧ Hid (PackAt wr W.heap.size p) ∧ W.heap.size < wr.heap.size) (fun i _ => n - (intOf i).toNat)
  case atStart => exact ⟨0, Nat.zero_le _, rfl, hide (fun j r h => absurd h (by omega)), HB0.out, HP, by simp⟩
  case round =>
    clear HP HB0
    obtain ⟨k, hk, rfl, HN, hb, HP, hsz⟩ := hrel
    have HB := hide hb
    clear hb
    by_cases hlt : k < n
    · obtain ⟨r, hr⟩ : ∃ r, l[k]? = some r := ⟨_, List.getElem?_eq_getElem (by have := HL.out.1; omega)⟩
      obtain ⟨hbB, hra⟩ := HL.out.get hr
      have HRA := hide (hra.below HB.out hbB)
      have HR := hide hr
      have HOK := hide (HL.out.okAt hr)
      have hbl : b < wr.heap.size := by omega
      clear hr hra
      obtain ⟨rp, m⟩ := r
      go_wp2_with fail
      refine wp_region_abs (by kernel_rfl) (by kernel_rfl) ?_
      intro T hT g hg hgi
      have HG := hide hg
      have HI := hide hgi
      have e : ∀ t o, (g t).cell? ⟨b, o, none⟩ = wr.cell? ⟨b, o, none⟩ := fun t o => (HG.out t).cell (p := ⟨b, o, none⟩) hbl
      have k1 : ∀ t, (g t).cell? ⟨b, o + k * 5 + 1, none⟩ = some (.int .u16 m.src) := fun t => (e t _).trans HRA.out.2.1
      have k2 : ∀ t, (g t).cell? ⟨b, o + k * 5 + 2, none⟩ = some (.int .u16 m.dst) := fun t => (e t _).trans HRA.out.2.2.1
      have k3 : ∀ t, (g t).cell? ⟨b, o + k * 5 + 3, none⟩ = some (.int .u8 m.sport) := fun t => (e t _).trans HRA.out.2.2.2.1
      have k4 : ∀ t, (g t).cell? ⟨b, o + k * 5 + 4, none⟩ = some (.int .u8 m.dport) := fun t => (e t _).trans HRA.out.2.2.2.2
      have p0 : ∀ t, (g t).cell? ⟨W.heap.size, 0, none⟩ = some (.int .i64 p.src) := fun t => (((HP.out.below (HG.out t) hsz))).1
      have p1 : ∀ t, (g t).cell? ⟨W.heap.size, 1, none⟩ = some (.int .i64 p.dst) := fun t => (((HP.out.below (HG.out t) hsz))).2.1
      have p2 : ∀ t, (g t).cell? ⟨W.heap.size, 2, none⟩ = some (.int .i64 p.sport) := fun t => (((HP.out.below (HG.out t) hsz))).2.2.1
      have p3 : ∀ t, (g t).cell? ⟨W.heap.size, 3, none⟩ = some (.int .i64 p.dport) := fun t => (((HP.out.below (HG.out t) hsz))).2.2.2
      have HBx := hide (fun t => HB.out.trans ((HG.out t).mono HB.out.size))
      have HPx := hide (fun t => (HP.out.below (HG.out t) hsz))
      have HSx := hide (fun t => Nat.lt_of_lt_of_le hsz (HG.out t).size)
      clear hg hgi e
      cases h1 : inB m p
      · repeat (go_big_quiet_step ((go_at_call 40; exact inAbs HG.out HI.out (refHas_walk m p _ HOK.out _ h1))))
        refine wpQuiet_nil ?_
        intro _ hw'
        obtain ⟨t, rfl⟩ := hw'
        go_wp2
        go_roundw
        case rel => exact ⟨k + 1, by omega, by go_num, hide (fun i r hi hr => by
          rcases (by omega : i < k ∨ i = k) with h | rfl
          · exact HN.out i r h hr
          · have e := HR.out; rw [e] at hr; cases hr; exact h1), HBx.out t, hide (HPx.out t), HSx.out t⟩
        case measure => simp [intOf]; omega
      · have HF := hide (lets_found HR.out h1 HN.out)
        repeat (go_big_quiet_step ((go_at_call 40; exact inAbs HG.out HI.out (refHas_walk m p _ HOK.out _ h1))))
        refine wpQuiet_nil ?_
        intro _ hw'
        obtain ⟨t, rfl⟩ := hw'
        have k0 : (g t).cell? ⟨b, o + k * 5, none⟩ = some (.bool rp) := ((HG.out t).cell (p := ⟨b, o + k * 5, none⟩) hbl).trans HRA.out.1
        go_wp2
        go_ret
        exact ⟨ret_bool (by rw [HF.out]), HBx.out t⟩
    · have hkn : k = n := by omega
      have HF := hide (lets_none (l := l) (p := p) (fun r hr => by
        obtain ⟨i, hi⟩ := List.getElem?_of_mem hr
        exact HN.out i r (by have := (List.getElem?_eq_some_iff.1 hi).1; have := HL.out.1; omega) hi))
      go_wp2
      go_ret
      exact ⟨ret_bool (by rw [HF.out]), HB.out⟩
theorem refLets_nil (A : Option Addr) (c : Nat) (p : Value) (x0 x1 x2 x3 : Int) (W : World) : Calls Tryz.prog 66 #[.slice A 0 c, .agg #[.int .i64 x0, .int .i64 x1, .int .i64 x2, .int .i64 x3]] W fun e W' => e = .returned (.bool false) ∧ Below W.heap.size W W' := by
  go_enter Tryz.func66, Tryz.ntmps66
  go_wp2
  refine wp_loop_rounds 1 ?_
  rw [rounds_succ]
  go_wp2
  go_ret
  exact ⟨rfl, (Below.refl _ _).alloc (Nat.le_refl _) _⟩
theorem refLets_any (l : List RuleV) (A : Option Addr) (n c : Nat) (p : P4) (W : World) (hn : n ≤ 9223372036854775807) (hl : RulesAt W W.heap.size A n l) :
    Calls Tryz.prog 66 #[.slice A n c, .agg #[.int .i64 p.src, .int .i64 p.dst, .int .i64 p.sport, .int .i64 p.dport]] W fun e W' => e = .returned (.bool (letsB l p)) ∧ Below W.heap.size W W' := by
  rcases Nat.eq_zero_or_pos n with rfl | h0
  · have : l = [] := List.eq_nil_of_length_eq_zero hl.1
    subst this
    exact refLets_nil A c undef _ _ _ _ W
  · obtain ⟨b, o, rfl, hb, _⟩ := hl.2.2 h0
    exact refLets_walk l b o n c p W hn hl
def pk (c : Nat) : P4 := ⟨((c / 1024 : Nat) : Int), ((c / 64 % 16 : Nat) : Int), ((c / 8 % 8 : Nat) : Int), ((c % 8 : Nat) : Int)⟩
theorem pk_val (c : Nat) : packVal c = .agg #[.int .i64 (pk c).src, .int .i64 (pk c).dst, .int .i64 (pk c).sport, .int .i64 (pk c).dport] := rfl
end Go.Proofs.YtifkacnoiocebaaGreat
