/- A packet's text, as the document reads it: ReadPacket. -/
import Derived.Test.YtohbafigjpoijaaDoorSt5
import Derived.Deep.RegionHeld3
set_option linter.unusedVariables false
set_option linter.unusedSimpArgs false
set_option maxRecDepth 100000
set_option maxHeartbeats 4000000
namespace Go.Proofs.YtohbafigjpoijaaDoor
open Go.RowKit

/-- A slice of texts of the call's own. -/
structure StrsAt (w : World) (base g n cap : Nat) (ps : List (List UInt8)) : Prop where
  own : w.ownsRow base 9 1 (.slice (some ⟨g, 0, none⟩) n cap) n (ps.map strV)
  len : ps.length = n
theorem StrsAt.lt {w : World} {base g n cap : Nat} {ps : List (List UInt8)} (h : StrsAt w base g n cap ps) : base ≤ g ∧ g < w.heap.size := h.own.lt g rfl
theorem StrsAt.get {w : World} {base g n cap : Nat} {ps : List (List UInt8)} (h : StrsAt w base g n cap ps) {k : Nat} {x : List UInt8} (hx : ps[k]? = some x) : w.cell? ⟨g, k, none⟩ = some (.string ⟨x.toArray⟩) := by
  have hk : k < n := by rw [← h.len]; exact (List.getElem?_eq_some_iff.1 hx).1
  rw [h.own.cellAt k (by omega), List.getElem?_map, hx]; rfl
theorem StrsAt.below {w w' : World} {base g n cap : Nat} {ps : List (List UInt8)} (h : StrsAt w base g n cap ps) (hb : Below w.heap.size w w') : StrsAt w' base g n cap ps :=
  ⟨Go.Proofs.YtohbafigjpoijaaDoor.ownsRow_below h.own hb, h.len⟩
theorem pieces_own (l : List UInt8) (b : UInt8) (w : World) (hs : l.length ≤ 1048576) :
    Calls Tryd.prog 46 #[.string ⟨l.toArray⟩, .int .u8 (b.toNat : Int)] w fun e w' =>
      ∃ g cap, e = .returned (.slice (some ⟨g, 0, none⟩) (pieces b l).length cap) ∧ StrsAt w' w.heap.size g (pieces b l).length cap (pieces b l) ∧ Below w.heap.size w w' := by
  refine (pieces_walk ⟨l.toArray⟩ b w (by rw [← sz_list]; simpa using hs)).mono ?_
  rintro e w' ⟨v, rfl, ho, hb⟩
  obtain ⟨g, cap, rfl, _⟩ := ho.form (pieces_pos b _)
  exact ⟨g, cap, rfl, ⟨ho, rfl⟩, hb⟩

theorem ends_bad {x : UInt8} {l : List UInt8} (h : x ∈ l) (hx : isDig x = false) (hne : x ≠ 58) : goodE (endsF l) = false := by
  by_cases hc : 58 ∈ l
  · obtain ⟨u, v, rfl, hu⟩ := split_first hc
    simp only [endsF, cutB_at 58 u v hu]
    rcases List.mem_append.1 h with h | h
    · simp [goodE, numF_bad h hx]
    · rcases List.mem_cons.1 h with h | h
      · exact absurd h hne
      · simp [goodE, numF_bad h hx]
  · simp only [endsF, cutB_not 58 l hc]
    simp [goodE, numF_bad h hx]

theorem parse_bad {l : List UInt8} (h : (pieces 62 l).length ≠ 2) : parseF l = (⟨0, 0, 0, 0⟩, 3) := by
  rcases two_pieces 62 l with e | ⟨_, e⟩
  · rw [e] at h; exact absurd rfl h
  · have : goodE (endsF (cutB 62 l).2) = false := by
      rcases e with e | e
      · exact ends_bad e (by decide) (by decide)
      · rw [e]; rfl
    simp [parseF, this]
theorem pieces_two {b : UInt8} {l : List UInt8} (h : (pieces b l).length = 2) : pieces b l = [(cutB b l).1, (cutB b l).2] := by
  rcases two_pieces b l with e | ⟨e, _⟩
  · exact e
  · exact absurd h e
theorem ends_not {l : List UInt8} (h : (pieces 58 l).length ≠ 2) : goodE (endsF l) = false := by
  rcases two_pieces 58 l with e | ⟨_, e⟩
  · rw [e] at h; exact absurd rfl h
  · have : numF (cutB 58 l).2 8 = -1 := by
      rcases e with e | e
      · exact numF_bad e (by decide)
      · rw [e]; rfl
    simp [goodE, endsF, this]
theorem right_good (x y z u : List UInt8) : rightB ⟨numF x 16, numF z 16, numF y 8, numF u 8⟩ = (goodE (numF x 16, numF y 8) && goodE (numF z 16, numF u 8)) := by
  have h1 := numF_lt x 16
  have h2 := numF_lt y 8
  have h3 := numF_lt z 16
  have h4 := numF_lt u 8
  rw [Bool.eq_iff_iff]
  simp only [rightB, inR, goodE, Bool.and_eq_true, decide_eq_true_eq]
  constructor
  · intro h; omega
  · intro h
    have := h1 h.1.1
    have := h2 h.1.2
    have := h3 h.2.1
    have := h4 h.2.2
    omega

theorem readPacket_walk (l : List UInt8) (W : World) (hs : l.length ≤ 1048576) :
    Calls Tryd.prog 18 #[.string ⟨l.toArray⟩] W fun e W' => e = .returned (parseV l) ∧ Below W.heap.size W W' := by
  have hb0 := (Below.refl W.heap.size W).alloc (Nat.le_refl _) (.cells #[.int .i64 0, .int .i64 0, .int .i64 0, .int .i64 0] 23)
  have hx := heap_alloc_new W (.cells #[.int .i64 0, .int .i64 0, .int .i64 0, .int .i64 0] 23)
  have hcl := cutB_len 62 l
  have HPC := hide (fun w => pieces_own l 62 w hs)
  have hV : parseV l = .tuple #[.agg #[.int .i64 (parseF l).1.src, .int .i64 (parseF l).1.dst, .int .i64 (parseF l).1.sport, .int .i64 (parseF l).1.dport], .int .i64 (parseF l).2] := rfl
  by_cases h2 : (pieces 62 l).length = 2
  case neg =>
    rw [parse_bad h2] at hV
    have HV := hide hV
    obtain ⟨n, hn⟩ : ∃ n, (pieces 62 l).length = n := ⟨_, rfl⟩
    rw [hn] at HPC h2
    have d1 : ((n : Int) == 2) = false := by simp; omega
    have d2 : ((n : Int) != 2) = true := by simp; omega
    clear hV hn hcl
    rw [HV.out]
    go_enter Tryd.func18, Tryd.ntmps18
    go_wp2_with fail
    generalize W.alloc (.cells #[.int .i64 0, .int .i64 0, .int .i64 0, .int .i64 0] 23) = w1 at *
    refine (HPC.out _).mono ?_
    rintro e w2 ⟨g, cap, rfl, _, hb2⟩
    have hx2 := (hb2.block W.heap.size (heap_lt hx)).trans hx
    have HB := hide (hb0.trans (hb2.mono hb0.size))
    obtain ⟨z0, z1, z2, z3, z4, z5, z6, z7⟩ := cells4f hx2
    clear hx hb0 hb2 hx2 HPC
    go_wp2
    refine bodyPost_ret (v := .tuple #[.agg #[.int .i64 0, .int .i64 0, .int .i64 0, .int .i64 0], .int .i64 3]) (by simp [results, Tryd.f18, go_sem, z0, z1, z2, z3]) rfl ⟨rfl, ?_⟩
    exact (((HB.out.setCell (Nat.le_refl _) _).setCell (Nat.le_refl _) _).setCell (Nat.le_refl _) _).setCell (Nat.le_refl _) _
  case pos =>
    have hP := pieces_two h2
    have hF : parseF l = if goodE (endsF (cutB 62 l).1) && goodE (endsF (cutB 62 l).2) then (⟨(endsF (cutB 62 l).1).1, (endsF (cutB 62 l).2).1, (endsF (cutB 62 l).1).2, (endsF (cutB 62 l).2).2⟩, 0) else (⟨0, 0, 0, 0⟩, 3) := rfl
    rw [hF] at hV
    obtain ⟨X, hX⟩ : ∃ X, (cutB 62 l).1 = X := ⟨_, rfl⟩
    obtain ⟨Y, hY⟩ : ∃ Y, (cutB 62 l).2 = Y := ⟨_, rfl⟩
    rw [hX, hY] at hP hV hcl
    rw [hP] at HPC
    obtain ⟨V, hVV⟩ : ∃ V, parseV l = V := ⟨_, rfl⟩
    rw [hVV] at hV ⊢
    have HV := hide hV
    clear hV hF hX hY hP h2 hVV
    have HPX := hide (fun w => pieces_own X 58 w (by omega))
    have HPY := hide (fun w => pieces_own Y 58 w (by omega))
    have HCX := hide (two_pieces 58 X)
    have HCY := hide (two_pieces 58 Y)
    clear hcl
    obtain ⟨PX, hPX⟩ : ∃ p, pieces 58 X = p := ⟨_, rfl⟩
    obtain ⟨PY, hPY⟩ : ∃ p, pieces 58 Y = p := ⟨_, rfl⟩
    obtain ⟨nx, hnx⟩ : ∃ n, PX.length = n := ⟨_, rfl⟩
    obtain ⟨ny, hny⟩ : ∃ n, PY.length = n := ⟨_, rfl⟩
    rw [hPX, hnx] at HPX
    rw [hPY, hny] at HPY
    have HD := hide (And.intro (And.intro hPX hnx) (And.intro hPY hny))
    clear hPX hPY hnx hny
    go_enter Tryd.func18, Tryd.ntmps18
    go_wp2_with fail
    generalize W.alloc (.cells #[.int .i64 0, .int .i64 0, .int .i64 0, .int .i64 0] 23) = w1 at *
    refine (HPC.out _).mono ?_
    rintro e w2 ⟨g, cap, rfl, hst, hb2⟩
    have hx2 := (hb2.block W.heap.size (heap_lt hx)).trans hx
    have HX2 := hide hx2
    have HB2 := hide (hb0.trans (hb2.mono hb0.size))
    have p0 : w2.cell? ⟨g, 0, none⟩ = some (.string ⟨X.toArray⟩) := hst.get (k := 0) rfl
    have p1 : w2.cell? ⟨g, 1, none⟩ = some (.string ⟨Y.toArray⟩) := hst.get (k := 1) rfl
    have hgl := hst.lt.2
    have HPP := hide (fun (w' : World) (hb : Below w2.heap.size w2 w') => show w'.cell? ⟨g, 0, none⟩ = some (.string ⟨X.toArray⟩) ∧ w'.cell? ⟨g, 1, none⟩ = some (.string ⟨Y.toArray⟩) from ⟨(hb.cell (p := ⟨g, 0, none⟩) hgl).trans p0, (hb.cell (p := ⟨g, 1, none⟩) hgl).trans p1⟩)
    clear hx hb0 hb2 hx2 HPC hst hgl
    simp only [List.length_cons, List.length_nil, Nat.zero_add]
    go_wp2
    go_region_held3 (fun w' => w'.cell? ⟨g, 0, none⟩ = some (.string ⟨X.toArray⟩) ∧ w'.cell? ⟨g, 1, none⟩ = some (.string ⟨Y.toArray⟩)) (go_keep) (first | (go_at_call_of 46 (Value.string ⟨X.toArray⟩); refine (HPX.out _).mono ?_; rintro e w3 ⟨gx, cx, rfl, hst, hb⟩; have hb3 : Below w2.heap.size w2 w3 := (below_drewN w2 1).trans hb; have HSX := hide hst; have HB3 := hide hb3; have p0 := (HPP.out _ hb3).1; have p1 := (HPP.out _ hb3).2; clear hst hb hb3) | (go_at_call_of 46 (Value.string ⟨Y.toArray⟩); refine (HPY.out _).mono ?_; rintro e w4 ⟨gy, cy, rfl, hst, hb⟩; have HSY := hide hst; have HB4 := hide hb; have p0 := (HPP.out _ (HB3.out.trans (hb.mono HB3.out.size))).1; have p1 := (HPP.out _ (HB3.out.trans (hb.mono HB3.out.size))).2; clear hst hb))
    have HSX4 := hide (HSX.out.below HB4.out)
    have hb24 := HB3.out.trans (HB4.out.mono HB3.out.size)
    have HB := hide (HB2.out.trans (hb24.mono HB2.out.size))
    have hx4 := (hb24.block W.heap.size (heap_lt HX2.out)).trans HX2.out
    have HX4 := hide hx4
    obtain ⟨z0, z1, z2, z3, z4, z5, z6, z7⟩ := cells4f hx4
    rename_i hheld
    clear hx4 hb24 HB2 HB3 HB4 HSX HPX HPY HPP HX2 p0 p1 hheld
    by_cases hnx : nx = 2
    case neg =>
      have hg : goodE (endsF X) = false := ends_not (by rw [HD.out.1.1, HD.out.1.2]; exact hnx)
      have d1 : ((nx : Int) == 2) = false := by simp; omega
      have d2 : ((nx : Int) != 2) = true := by simp; omega
      have HR := hide (show V = .tuple #[.agg #[.int .i64 0, .int .i64 0, .int .i64 0, .int .i64 0], .int .i64 3] by rw [HV.out, hg]; rfl)
      clear HV hg hnx
      go_wp2
      refine bodyPost_ret (v := .tuple #[.agg #[.int .i64 0, .int .i64 0, .int .i64 0, .int .i64 0], .int .i64 3]) (by simp [results, Tryd.f18, go_sem, z0, z1, z2, z3]) rfl ⟨by rw [HR.out], ?_⟩
      exact (((HB.out.setCell (Nat.le_refl _) _).setCell (Nat.le_refl _) _).setCell (Nat.le_refl _) _).setCell (Nat.le_refl _) _
    subst hnx
    by_cases hny : ny = 2
    case neg =>
      have hg : goodE (endsF Y) = false := ends_not (by rw [HD.out.2.1, HD.out.2.2]; exact hny)
      have d1 : ((ny : Int) == 2) = false := by simp; omega
      have d2 : ((ny : Int) != 2) = true := by simp; omega
      have HR := hide (show V = .tuple #[.agg #[.int .i64 0, .int .i64 0, .int .i64 0, .int .i64 0], .int .i64 3] by rw [HV.out, hg, Bool.and_false]; rfl)
      clear HV hg hny
      go_wp2
      refine bodyPost_ret (v := .tuple #[.agg #[.int .i64 0, .int .i64 0, .int .i64 0, .int .i64 0], .int .i64 3]) (by simp [results, Tryd.f18, go_sem, z0, z1, z2, z3]) rfl ⟨by rw [HR.out], ?_⟩
      exact (((HB.out.setCell (Nat.le_refl _) _).setCell (Nat.le_refl _) _).setCell (Nat.le_refl _) _).setCell (Nat.le_refl _) _
    subst hny
    obtain ⟨x0, x1, hPX⟩ : ∃ a b, PX = [a, b] := by
      match PX, HD.out.1.2 with
      | [a, b], _ => exact ⟨a, b, rfl⟩
    obtain ⟨y0, y1, hPY⟩ : ∃ a b, PY = [a, b] := by
      match PY, HD.out.2.2 with
      | [a, b], _ => exact ⟨a, b, rfl⟩
    subst hPX hPY
    have eX : endsF X = (numF x0 16, numF x1 8) := by
      rcases HCX.out with e | ⟨e, _⟩
      · rw [HD.out.1.1] at e
        simp only [List.cons.injEq, and_true] at e
        rw [e.1, e.2]; rfl
      · rw [HD.out.1.1] at e; simp at e
    have eY : endsF Y = (numF y0 16, numF y1 8) := by
      rcases HCY.out with e | ⟨e, _⟩
      · rw [HD.out.2.1] at e
        simp only [List.cons.injEq, and_true] at e
        rw [e.1, e.2]; rfl
      · rw [HD.out.2.1] at e; simp at e
    have hrg := right_good x0 x1 y0 y1
    have hV := HV.out
    rw [eX, eY] at hV
    have H0 := hide (fun w => dig_walk x0 15 w (by omega))
    have H1 := hide (fun w => dig_walk x1 7 w (by omega))
    have H2 := hide (fun w => dig_walk y0 15 w (by omega))
    have H3 := hide (fun w => dig_walk y1 7 w (by omega))
    have a0 := HSX4.out.get (k := 0) rfl
    have a1 := HSX4.out.get (k := 1) rfl
    have b0 := HSY.out.get (k := 0) rfl
    have b1 := HSY.out.get (k := 1) rfl
    have HSS := hide (And.intro HSX4.out HSY.out)
    clear eX eY HCX HCY HD HV HSX4 HSY
    simp only [show (15 : Int) + 1 = 16 from rfl, show (7 : Int) + 1 = 8 from rfl] at H0 H1 H2 H3
    generalize numF x0 16 = A at *
    generalize numF x1 8 = B at *
    generalize numF y0 16 = C at *
    generalize numF y1 8 = D at *
    rw [← hrg] at hV
    have HV := hide hV
    clear hV hrg
    have HRI := hide (fun w => right_walk ⟨A, C, B, D⟩ w)
    generalize rightB ⟨A, C, B, D⟩ = R at *
    go_wp2_with fail
    go_region_held3 (fun w' => w'.cell? ⟨gx, 0, none⟩ = some (.string ⟨x0.toArray⟩) ∧ w'.cell? ⟨gx, 1, none⟩ = some (.string ⟨x1.toArray⟩) ∧ w'.cell? ⟨gy, 0, none⟩ = some (.string ⟨y0.toArray⟩) ∧ w'.cell? ⟨gy, 1, none⟩ = some (.string ⟨y1.toArray⟩)) (go_keep) (first | (go_at_call_of 47 (Value.string ⟨x0.toArray⟩); refine (H0.out _).mono ?_; rintro e w5 ⟨rfl, rfl⟩) | (go_at_call_of 47 (Value.string ⟨x1.toArray⟩); refine (H1.out _).mono ?_; rintro e w5 ⟨rfl, rfl⟩) | (go_at_call_of 47 (Value.string ⟨y0.toArray⟩); refine (H2.out _).mono ?_; rintro e w5 ⟨rfl, rfl⟩) | (go_at_call_of 47 (Value.string ⟨y1.toArray⟩); refine (H3.out _).mono ?_; rintro e w5 ⟨rfl, rfl⟩))
    all_goals
      rename_i hheld
      clear hheld a0 a1 b0 b1 p0 p1
      have hy := heap_alloc_new w4 (.cells #[.int .i64 A, .int .i64 C, .int .i64 B, .int .i64 D] 23)
      have hba := (Below.refl w4.heap.size w4).alloc (Nat.le_refl _) (.cells #[.int .i64 A, .int .i64 C, .int .i64 B, .int .i64 D] 23)
      have hlt := heap_lt HX4.out
      have hx5 := (hba.block W.heap.size hlt).trans HX4.out
      have hne : W.heap.size ≠ w4.heap.size := Nat.ne_of_lt hlt
      generalize hN : w4.heap.size = N at *
      have HB5 := hide (HB.out.trans ((show Below w4.heap.size w4 _ by rw [hN]; exact hba).mono HB.out.size))
      generalize hw5 : w4.alloc (.cells #[.int .i64 A, .int .i64 C, .int .i64 B, .int .i64 D] 23) = w5 at *
      obtain ⟨y0', y1', y2', y3', _⟩ := cells4f hy
      clear hw5 hN hba z0 z1 z2 z3 z4 z5 z6 z7 HB HX4 hlt HSS
      go_wp2_with fail
      refine (HRI.out _).mono ?_
      rintro e w6 ⟨rfl, hb6⟩
      have hb56 : Below w5.heap.size w5 w6 := (below_drewN w5 1).trans hb6
      have hx6 := (hb56.block W.heap.size (heap_lt hx5)).trans hx5
      have hy6 := (hb56.block N (heap_lt hy)).trans hy
      have HB6 := hide (HB5.out.trans (hb56.mono HB5.out.size))
      obtain ⟨z0, z1, z2, z3, z4, z5, z6, z7⟩ := cells4f hx6
      obtain ⟨y0, y1, y2, y3, _⟩ := cells4f hy6
      clear hb6 hb56 hx6 hy6 hx5 hy HB5 HRI y0' y1' y2' y3'
      cases R
      · have HR := hide HV.out
        clear HV
        go_wp2
        refine bodyPost_ret (v := .tuple #[.agg #[.int .i64 0, .int .i64 0, .int .i64 0, .int .i64 0], .int .i64 3]) (by simp [results, Tryd.f18, go_sem, z0, z1, z2, z3]) rfl ⟨by rw [HR.out]; rfl, ?_⟩
        exact (((HB6.out.setCell (Nat.le_refl _) _).setCell (Nat.le_refl _) _).setCell (Nat.le_refl _) _).setCell (Nat.le_refl _) _
      · have HR := hide HV.out
        clear HV
        go_wp2
        refine bodyPost_ret (v := .tuple #[.agg #[.int .i64 A, .int .i64 C, .int .i64 B, .int .i64 D], .int .i64 0]) (by simp [results, Tryd.f18, go_sem, z0, z1, z2, z3]) rfl ⟨by rw [HR.out]; rfl, ?_⟩
        exact (((HB6.out.setCell (Nat.le_refl _) _).setCell (Nat.le_refl _) _).setCell (Nat.le_refl _) _).setCell (Nat.le_refl _) _
end Go.Proofs.YtohbafigjpoijaaDoor
