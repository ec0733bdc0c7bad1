/- wireward/wirekeep.NetOwn: whatever is handed in, it returns true, and leaves the input as it reads. -/
import Derived.Test.YtifkacnoiocebaaNw26
set_option linter.unusedVariables false
set_option linter.unusedSimpArgs false
set_option maxRecDepth 100000
set_option maxHeartbeats 1000000
namespace Go.Proofs.Ytifkacnoiocebaa
open Go.ChangeAt Go.ChangeShapes Go.RowKit Go.WideShapes
section
variable {H : Type} {enc : TypeId × Value → H} {w : World} {base : Nat} {spare : Nat → Bool} {held : Bool} {r : Reach} {b0 : Nat}
theorem Try.cellsEvent8 : Try.prog.cellsOf 40 = 8 := by kernel_rfl
theorem read_event {n : Nat} {cs : List Value} {y : DataW H × List MemPlace} (h : DataW.trod enc Try.prog w base spare held n 40 cs = some y) : ∃ x : ActV, x.ok ∧ cs = x.cells := by
  obtain ⟨xs, n', _, _, hlen, hxl, hf⟩ := DataW.trod_struct Try.underlying40 h
  rw [Try.cellsEvent8] at hlen
  match cs, hlen with
  | [c0, c1, c2, c3, c4, c5, c6, c7], _ =>
    have h0 := hf 0 _ rfl
    have h1 := hf 1 _ rfl
    have h2 := hf 2 _ rfl
    have h3 := hf 3 _ rfl
    have h4 := hf 4 _ rfl
    obtain ⟨y0, e0⟩ := get_some (xs := xs) (i := 0) (by rw [hxl]; decide)
    obtain ⟨y1, e1⟩ := get_some (xs := xs) (i := 1) (by rw [hxl]; decide)
    obtain ⟨y2, e2⟩ := get_some (xs := xs) (i := 2) (by rw [hxl]; decide)
    obtain ⟨y3, e3⟩ := get_some (xs := xs) (i := 3) (by rw [hxl]; decide)
    obtain ⟨y4, e4⟩ := get_some (xs := xs) (i := 4) (by rw [hxl]; decide)
    rw [e0] at h0
    rw [e1] at h1
    rw [e2] at h2
    rw [e3] at h3
    rw [e4] at h4
    simp [cellsI1, Try.cellsPacket4] at h0 h1 h2 h3 h4
    obtain ⟨a, rfl, ha⟩ := trod_i64 h0
    obtain ⟨b, rfl, hb⟩ := trod_i64 h1
    obtain ⟨c, rfl, hc⟩ := trod_i64 h2
    obtain ⟨q, hq, hm2⟩ := read_packet h3
    obtain ⟨d, rfl, hd⟩ := trod_i64 h4
    simp only [P4.cells, List.cons.injEq, and_true] at hm2
    obtain ⟨rfl, rfl, rfl, rfl⟩ := hm2
    exact ⟨⟨a, b, c, q, d⟩, ⟨ha, hb, hc, hq, hd⟩, rfl⟩
theorem open_events {v : Value} {d : DataW H} {p : List MemPlace} (hv : Value.okWide Try.prog w r b0 26 v) (h : DataW.Trod enc Try.prog w base spare held 26 v d p) :
    ∃ (A : Option Addr) (n c : Nat) (l : List ActV), v = .slice A n c ∧ n ≤ c ∧ c ≤ maxLen ∧ SlAt ActV.cells 8 w w.heap.size A n l ∧ (∀ r ∈ l, r.ok) ∧ (n = 0 ∨ ∃ elems sp, d = .slice elems sp ∧ elems.length = n) :=
  open_elems ActV.cells ActV.ok 8 Try.underlying26 Try.cellsEvent8 (by omega) ActV.len (fun _ _ _ h => read_event h) hv h
end
open Go.Deep Go.Joins
section
variable {H : Type} {enc : TypeId × Value → H} {w : World} {base : Nat} {spare : Nat → Bool} {held : Bool} {r : Reach} {b0 : Nat}
theorem slice_weight {P : Program} {t e : TypeId} (ht : P.underlying t = some (.slice e)) {fuel : Nat} {A : Option Addr} {n c : Nat} {y : DataW H × List MemPlace} (hf : DataW.trod enc P w base spare held fuel t [.slice A n c] = some y) :
    n = 0 ∨ ∃ m ∈ y.1.weights P t, n * P.bytesOf e ≤ m := by
  rcases open_slice ht hf with ⟨hcs, hx⟩ | ⟨a, len0, cap0, m, k, D, Pl, hcs, hb, hl, hm, hmm, hx, hi⟩
  · simp only [List.cons.injEq, Value.slice.injEq, and_true] at hcs
    exact .inl hcs.2.1
  · simp only [List.cons.injEq, Value.slice.injEq, and_true] at hcs
    obtain ⟨rfl, rfl, rfl⟩ := hcs
    right
    rw [hx]
    refine ⟨_, by simp only [DataW.weights, ht]; exact List.mem_cons_self, ?_⟩
    simp only [List.length_map, List.length_range]
    exact Nat.mul_le_mul_right _ (Nat.le_add_right _ _)
theorem Try.bytesLink : Try.prog.bytesOf 66 = 32 := by kernel_rfl
theorem Try.bytesDevice : Try.prog.bytesOf 61 = 112 := by kernel_rfl
end
section
variable {H : Type} {enc : TypeId × Value → H} {w : World} {base : Nat} {spare : Nat → Bool} {held : Bool} {r : Reach} {b0 : Nat}
theorem Try.bytesInt : Try.prog.bytesOf 3 = 8 := by kernel_rfl
theorem Try.bytesRule : Try.prog.bytesOf 55 = 8 := by kernel_rfl
theorem Try.bytesRoute : Try.prog.bytesOf 71 = 24 := by kernel_rfl
theorem mem_weightsAll {P : Program} {e : TypeId} {m : Nat} {d : DataW H} (h : m ∈ d.weights P e) : ∀ {l : List (DataW H)}, d ∈ l → m ∈ DataW.weightsAll P e l
  | x :: l, hd => by
    simp only [DataW.weightsAll, List.mem_append]
    rcases List.mem_cons.1 hd with rfl | hd
    · exact .inl h
    · exact .inr (mem_weightsAll h hd)
theorem dev_weight {n : Nat} {d : DevV} {y : DataW H × List MemPlace} (h : DataW.trod enc Try.prog w base spare held n 61 d.cells = some y) (hw : ∀ m ∈ y.1.weights Try.prog 61, m ≤ reachBytes) : d.bn * 8 ≤ reachBytes ∧ d.rn * 8 ≤ reachBytes ∧ d.tn * 24 ≤ reachBytes := by
  obtain ⟨xs, n', _, hxx, hlen, hxl, hf⟩ := DataW.trod_struct Try.underlying61 h
  have h4 := hf 4 _ rfl
  have h5 := hf 5 _ rfl
  have h6 := hf 6 _ rfl
  obtain ⟨y0, y1, y2, y3, y4, y5, y6, rfl⟩ : ∃ y0 y1 y2 y3 y4 y5 y6, xs = [y0, y1, y2, y3, y4, y5, y6] := by
    match xs, hxl with
    | [y0, y1, y2, y3, y4, y5, y6], _ => exact ⟨_, _, _, _, _, _, _, rfl⟩
  simp [DevV.cells, cellsIs1, cellsRs1, cellsTs1] at h4 h5 h6
  have hd : y.1 = .agg [y0.1, y1.1, y2.1, y3.1, y4.1, y5.1, y6.1] := by rw [hxx]; rfl
  have hws : ∀ m, (m ∈ y4.1.weights Try.prog 58 ∨ m ∈ y5.1.weights Try.prog 57 ∨ m ∈ y6.1.weights Try.prog 59) → m ≤ reachBytes := fun m hm => hw m (by
    rw [hd]
    simp only [DataW.weights, Try.underlying61]
    show m ∈ DataW.weightsEach Try.prog [9, 3, 3, 5, 58, 57, 59] [y0.1, y1.1, y2.1, y3.1, y4.1, y5.1, y6.1]
    simp only [DataW.weightsEach, List.append_nil, List.mem_append]
    exact .inr (.inr (.inr (.inr hm))))
  refine ⟨?_, ?_, ?_⟩
  · rcases slice_weight Try.underlying58 h4 with h | ⟨m, hm, hle⟩
    · rw [h]; decide
    · rw [Try.bytesInt] at hle
      exact Nat.le_trans hle (hws m (.inl hm))
  · rcases slice_weight Try.underlying57 h5 with h | ⟨m, hm, hle⟩
    · rw [h]; decide
    · rw [Try.bytesRule] at hle
      exact Nat.le_trans hle (hws m (.inr (.inl hm)))
  · rcases slice_weight Try.underlying59 h6 with h | ⟨m, hm, hle⟩
    · rw [h]; decide
    · rw [Try.bytesRoute] at hle
      exact Nat.le_trans hle (hws m (.inr (.inr hm)))
theorem devs_weight {n : Nat} {A : Option Addr} {dn dc : Nat} {ds : List DevV} {y : DataW H × List MemPlace} (h : DataW.trod enc Try.prog w base spare held n 22 [.slice A dn dc] = some y) (hs : SlAt DevV.cells 7 w w.heap.size A dn ds) (hw : ∀ m ∈ y.1.weights Try.prog 22, m ≤ reachBytes) :
    ∀ d ∈ ds, d.bn * 8 ≤ reachBytes ∧ d.rn * 8 ≤ reachBytes ∧ d.tn * 24 ≤ reachBytes := by
  intro d hd
  obtain ⟨k, hk⟩ := List.mem_iff_getElem?.1 hd
  have hkl : k < dn := by
    have := (List.getElem?_eq_some_iff.1 hk).1
    have := hs.1
    omega
  rcases open_slice Try.underlying22 h with ⟨hcs, hx⟩ | ⟨a, len0, cap0, m, k', D, Pl, hcs, hb, hl, hm, hmm, hx, hi⟩
  · simp only [List.cons.injEq, Value.slice.injEq, and_true] at hcs
    omega
  · simp only [List.cons.injEq, Value.slice.injEq, and_true] at hcs
    obtain ⟨rfl, rfl, rfl⟩ := hcs
    have hlm : dn ≤ m := by rw [hmm]; split <;> omega
    obtain ⟨cs', hc, ht⟩ := hi k (by omega)
    rw [Try.cellsDevice] at hc
    obtain ⟨_, hcl, hcg⟩ := World.cells?_some hc
    obtain ⟨b, o, e, _, hg⟩ := hs.2 (by omega)
    cases e
    have hcd : cs' = d.cells := by
      apply List.ext_getElem?
      intro i
      by_cases hi7 : i < 7
      · have h1 := hcg i hi7
        rw [addr_add, addr_add] at h1
        obtain ⟨v, hv⟩ : ∃ v, d.cells[i]? = some v := ⟨_, List.getElem?_eq_getElem (by rw [DevV.len]; exact hi7)⟩
        rw [hv, ← h1]
        exact hg k d hk i v hv
      · rw [List.getElem?_eq_none (by omega), List.getElem?_eq_none (by rw [DevV.len]; omega)]
    rw [hcd] at ht
    refine dev_weight ht (fun q hq => hw q ?_)
    rw [hx]
    simp only [DataW.weights, Try.underlying22, List.mem_cons, List.mem_append]
    exact .inr (.inl (mem_weightsAll hq (List.mem_map.2 ⟨k, List.mem_range.2 hkl, rfl⟩)))
theorem open_net_fits {v : Value} {d : DataW H} {p : List MemPlace} (hv : Value.okWide Try.prog w r b0 25 v) (h : DataW.Trod enc Try.prog w base spare held 25 v d p) (hw : ∀ m ∈ d.weights Try.prog 25, m ≤ reachBytes) :
    ∃ n : NetV, NetAt w w.heap.size n ∧ v = n.val ∧ NetFits n := by
  obtain ⟨n, hn, rfl⟩ := open_net hv h
  refine ⟨n, hn, rfl, ?_⟩
  obtain ⟨fuel, hf⟩ := h
  have hf' : DataW.trod enc Try.prog w base spare held fuel 25 [.slice n.dA n.dn n.dc, .slice n.lA n.ln n.lc] = some (d, p) := hf
  obtain ⟨xs, n', _, hxx, hlen, hxl, hg⟩ := DataW.trod_struct Try.underlying25 hf'
  have h0 := hg 0 _ rfl
  have h1 := hg 1 _ rfl
  obtain ⟨y0, y1, rfl⟩ : ∃ y0 y1, xs = [y0, y1] := by
    match xs, hxl with
    | [y0, y1], _ => exact ⟨_, _, rfl⟩
  simp [cellsDs1, cellsLs1] at h0 h1
  have hd : d = .agg [y0.1, y1.1] := by cases hxx; rfl
  subst hd
  have hws : ∀ m, (m ∈ y0.1.weights Try.prog 22 ∨ m ∈ y1.1.weights Try.prog 23) → m ≤ reachBytes := fun m hm => hw m (by
    simp only [DataW.weights, Try.underlying25]
    show m ∈ DataW.weightsEach Try.prog [22, 23] [y0.1, y1.1]
    simp only [DataW.weightsEach, List.append_nil, List.mem_append]
    exact hm)
  have hr : reachBytes ≤ 140737488355328 := by decide
  refine ⟨?_, ?_, fun x hx => ?_⟩
  · rcases slice_weight Try.underlying22 h0 with h | ⟨m, hm, hle⟩
    · rw [h]; decide
    · rw [Try.bytesDevice] at hle
      exact Nat.le_trans hle (Nat.le_trans (hws m (.inl hm)) hr)
  · rcases slice_weight Try.underlying23 h1 with h | ⟨m, hm, hle⟩
    · rw [h]; decide
    · rw [Try.bytesLink] at hle
      exact Nat.le_trans hle (Nat.le_trans (hws m (.inr hm)) hr)
  · obtain ⟨q1, q2, q3⟩ := devs_weight h0 hn.ds (fun m hm => hws m (.inl hm)) x hx
    exact ⟨Nat.le_trans q1 hr, Nat.le_trans q2 hr, Nat.le_trans q3 hr⟩
end
end Go.Proofs.Ytifkacnoiocebaa
namespace Go.Proofs.Ytifkacnoiocebaa
open Go.ChangeAt Go.ChangeShapes Go.Maps Go.RowKit Go.WideShapes
theorem netOwn_lifted (os : Os) (started : os.Started) (H : Type) (enc : TypeId × Value → H) :
    ReturnsInHanded {} Try.checked os 3 .any (Rows.netOwnSpec.pre6 enc Try.prog Try.f3 Rows.netOwnRow.domain false) (Rows.netOwnSpec.post enc Try.prog Try.f3 false true false false) :=
  law_lifted (C := Try.checked) (tb := 4) Try.own started (by kernel_rfl) Try.func3 Try.laidOut (by kernel_rfl) rfl (by kernel_rfl) Try.underlying4
    (fun ds h => by
      match ds, h with
      | [_, _, _], _ => exact ⟨rfl, rfl, rfl⟩)
    (ChangeSpec.witness6 (enc := enc) (C := Try.checked) false ⟨#[], #[.agg #[.slice none 0 0, .slice none 0 0], .slice none 0 0, .string ⟨#[]⟩], []⟩ 8 (by kernel_rfl) (by kernel_rfl) (by kernel_rfl) (by kernel_rfl))
    (fun W base args ds p hval0 hA0 hlt hsz0 => by
      have hval : ∀ (j : Nat) t v, Try.f3.params[j]? = some t → args[j]? = some v → Value.okWide Try.prog W .any base t v := hval0
      have hA : DataW.TrodAll enc Try.prog W 0 (fun _ => true) true Try.f3.params.toList args.toList ds p := hA0
      have hsz : (DataW.weightsEach Try.prog (Try.f3.params.toList ++ Rows.netOwnSpec.plain.varTypes Try.prog) (ds ++ [])).all (· ≤ reachBytes) = true := hsz0
      rw [Try.params3] at hA hval hsz
      obtain ⟨v0, vs0, d0, ds0, p0, q0, hargs, rfl, rfl, h0, r0⟩ := args_cons hA
      obtain ⟨v1, vs1, d1, ds1, p1, q1, rfl, rfl, rfl, h1, r1⟩ := args_cons r0
      obtain ⟨v2, vs2, d2, ds2, p2, q2, rfl, rfl, rfl, h2, r2⟩ := args_cons r1
      obtain ⟨rfl, rfl, rfl⟩ := args_nil r2
      obtain rfl : args = #[v0, v1, v2] := arr_eq hargs
      have hw : ∀ m ∈ d0.weights Try.prog 25, m ≤ reachBytes := fun m hm => by
        have := List.all_eq_true.1 hsz m (DataW.weights_mem_each (j := 0) rfl rfl m hm)
        simpa using this
      obtain ⟨n0, hn0, rfl, hf0⟩ := open_net_fits (hval 0 _ v0 rfl rfl) h0 hw
      obtain ⟨A1, n1, c1, l1, rfl, hnc1, hcm1, hl1, hok1, _⟩ := open_events (hval 1 _ v1 rfl rfl) h1
      obtain ⟨s2, rfl⟩ := okWide_string Try.underlying9 (hval 2 _ v2 rfl rfl)
      exact netOwn_walk n0 A1 n1 c1 l1 s2 W hn0 hf0 hl1 hok1 ⟨hnc1, hcm1⟩)
theorem netOwn_holds : Rows.NetOwnSaid :=
  OpenClaim.holds_of_wide 3 Try.f3 rfl rfl rfl rfl rfl rfl rfl ⟨rfl, rfl, rfl, rfl, rfl⟩ rfl rfl rfl rfl rfl (by kernel_rfl) Try.func3 (by kernel_rfl)
    (of_decide_eq_true (by kernel_rfl)) (by unfold Func.isWrapper; first | (rw [if_pos (by decide +kernel)]; kernel_rfl) | (rw [if_neg (by decide +kernel)]; exact ⟨rfl, rfl⟩))
    (fun os started H enc _ => netOwn_lifted os started H enc)
end Go.Proofs.Ytifkacnoiocebaa
