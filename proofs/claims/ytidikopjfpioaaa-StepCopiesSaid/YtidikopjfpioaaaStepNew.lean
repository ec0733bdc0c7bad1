/- step.New. -/
import Derived.Test.YtidikopjfpioaaaStepMem
import Derived.Test.YtidikopjfpioaaaStepCopy
import Derived.Test.YtidikopjfpioaaaNetCheck
set_option linter.unusedVariables false
set_option linter.unusedSimpArgs false
namespace Go.Proofs.Ytidikopjfpioaaa
open Go.RowKit Go.Maps

theorem devsE_all : ∀ (l pre : List Dev), devsE pre l = 0 → ∀ d ∈ l, devE d = 0
  | [], _, _, d, hd => by cases hd
  | a :: t, pre, h, d, hd => by
    unfold devsE at h
    by_cases h1 : namedB a.name = false
    · rw [if_pos h1] at h; cases h
    rw [if_neg h1] at h
    by_cases h2 : (pre.any (fun x => nameEq x.name a.name)) = true
    · rw [if_pos h2] at h; cases h
    rw [if_neg h2] at h
    by_cases h3 : devE a = 0
    · rw [if_pos h3] at h
      rcases List.mem_cons.1 hd with rfl | hd
      · exact h3
      · exact devsE_all t _ h d hd
    · rw [if_neg h3] at h; exact absurd h h3
structure DevOk (d : Dev) : Prop where
  k1 : 1 ≤ d.kind
  k5 : d.kind ≤ 5
  ar : (!(addrB d.kind && !(decide (0 ≤ d.addr) && decide (d.addr < 16))) && !(!addrB d.kind && (d.addr != 0)) && !((d.pool != 0) != (d.kind == 4))) = true
  bl : d.backs.length ≤ 3
  bb : backsB d = true
  rl : d.rules.length ≤ 8
  tc : checkF d.routes = 0
  tl : d.routes.length ≤ 8
theorem devE_ok {d : Dev} (h : devE d = 0) : DevOk d := by
  unfold devE at h
  by_cases h1 : (decide (d.kind < 1) || decide (5 < d.kind)) = true
  · rw [if_pos h1] at h; cases h
  rw [if_neg h1] at h
  by_cases h2 : ((addrB d.kind && !(decide (0 ≤ d.addr) && decide (d.addr < 16))) || (!addrB d.kind && (d.addr != 0)) || ((d.pool != 0) != (d.kind == 4))) = true
  · rw [if_pos h2] at h; cases h
  rw [if_neg h2] at h
  by_cases h3 : decide (3 < d.backs.length) = true
  · rw [if_pos h3] at h; cases h
  rw [if_neg h3] at h
  by_cases h4 : (!backsB d) = true
  · rw [if_pos h4] at h; cases h
  rw [if_neg h4] at h
  by_cases h5 : ((decide (0 < d.rules.length) && (d.kind != 2) && (d.kind != 3)) || (decide (0 < d.routes.length) && (d.kind != 2))) = true
  · rw [if_pos h5] at h; cases h
  rw [if_neg h5] at h
  by_cases h6 : decide (8 < d.rules.length) = true
  · rw [if_pos h6] at h; cases h
  rw [if_neg h6] at h
  simp only [Bool.or_eq_true, decide_eq_true_eq, not_or] at h1
  have hl : d.routes.length ≤ 8 := by
    unfold checkF at h
    by_cases h7 : 8 < d.routes.length
    · rw [if_pos h7] at h; cases h
    · omega
  refine ⟨by omega, by omega, ?_, by simpa using h3, by simpa using h4, by simpa using h6, h, hl⟩
  revert h2
  cases (addrB d.kind && !(decide (0 ≤ d.addr) && decide (d.addr < 16))) <;> cases (!addrB d.kind && (d.addr != 0)) <;> cases ((d.pool != 0) != (d.kind == 4)) <;> simp
theorem net_devs_ok {ds : List Dev} {ls : List LinkV} (h : netE ds ls = 0) : ∀ d ∈ ds, DevOk d := fun d hd => devE_ok (devsE_all ds [] (netE_ok h).de d hd)

theorem MS.emptyF : flowsV MS.empty = fun _ => none := by funext x; simp [flowsV, MS.empty]
theorem MS.emptyO : ownersV MS.empty = fun _ => none := by funext x; simp [ownersV, MS.empty]
theorem MS.emptyB : backsV MS.empty = fun _ => none := by funext x; simp [backsV, MS.empty]

theorem mem_made (w : World) (n : NetV) (hn : NetAt w w.heap.size n) (t : TypeId) :
    MemAt ((((w.alloc (.map #[] 0)).alloc (.map #[] 0)).alloc (.map #[] 0)).alloc (.cells #[.slice n.dA n.dn n.dc, .slice n.lA n.ln n.lc, .map (some w.heap.size), .map (some (w.heap.size + 1)), .map (some (w.heap.size + 1 + 1))] t)) (w.heap.size + 1 + 1 + 1) n w.heap.size (w.heap.size + 1) (w.heap.size + 1 + 1) MS.empty 0 := by
  have hb : Below w.heap.size w ((((w.alloc (.map #[] 0)).alloc (.map #[] 0)).alloc (.map #[] 0)).alloc (.cells #[.slice n.dA n.dn n.dc, .slice n.lA n.ln n.lc, .map (some w.heap.size), .map (some (w.heap.size + 1)), .map (some (w.heap.size + 1 + 1))] t)) :=
    ((((Below.refl _ _).alloc (Nat.le_refl _) _).alloc (by simp) _).alloc (by simp; omega) _).alloc (by simp; omega) _
  have hx := heap_alloc_new (((w.alloc (.map #[] 0)).alloc (.map #[] 0)).alloc (.map #[] 0)) (.cells #[.slice n.dA n.dn n.dc, .slice n.lA n.ln n.lc, .map (some w.heap.size), .map (some (w.heap.size + 1)), .map (some (w.heap.size + 1 + 1))] t)
  have hs : (((w.alloc (.map #[] 0)).alloc (.map #[] 0)).alloc (.map #[] 0)).heap.size = w.heap.size + 1 + 1 + 1 := by simp
  rw [hs] at hx
  refine ⟨?_, ?_, ?_, ?_, ?_, hn.below hb hb.size, ?_, ?_, ?_, by omega, by omega, by omega, ⟨[], by simp, fun a ha => by simp [MS.empty] at ha⟩, ⟨[], by simp, fun a ha => by simp [MS.empty] at ha⟩, ⟨[], by simp, fun a ha => by simp [MS.empty] at ha⟩, fun a v hv => by simp [MS.empty] at hv, fun a v hv => by simp [MS.empty] at hv⟩
  · rw [cell_of_row _ _ _ _ _ _ hx]; rfl
  · rw [cell_of_row _ _ _ _ _ _ hx]; rfl
  · rw [cell_of_row _ _ _ _ _ _ hx]; rfl
  · rw [cell_of_row _ _ _ _ _ _ hx]; rfl
  · rw [cell_of_row _ _ _ _ _ _ hx]; rfl
  · rw [MS.emptyF]
    exact (MapIs.made w).below ((((Below.refl _ _).alloc (Nat.le_refl _) _).alloc (by simp) _).alloc (by simp) _) (by simp)
  · rw [MS.emptyO]
    have := MapIs.made (P := Try.prog) (kt := 165) (key := poVal) (dom := poDom) (w.alloc (.map #[] 0))
    rw [show (w.alloc (.map #[] 0)).heap.size = w.heap.size + 1 from by simp] at this
    exact this.below (B := w.heap.size + 2) (((Below.refl _ _).alloc (by simp) _).alloc (by simp) _) (by omega)
  · rw [MS.emptyB]
    have := MapIs.made (P := Try.prog) (kt := 162) (key := ofVal) (dom := ofDom) ((w.alloc (.map #[] 0)).alloc (.map #[] 0))
    rw [show ((w.alloc (.map #[] 0)).alloc (.map #[] 0)).heap.size = w.heap.size + 1 + 1 from by simp] at this
    exact this.below (B := w.heap.size + 3) ((Below.refl _ _).alloc (by simp) _) (by omega)

set_option maxRecDepth 100000 in
set_option maxHeartbeats 4000000 in
theorem stepNew_bad (n : NetV) (W : World) (hn : NetAt W W.heap.size n) (hE : netE n.devs n.ls ≠ 0) :
    Calls Try.prog 44 #[n.val] W fun e W' => e = .returned (.tuple #[.pointer none, .int .i64 (netE n.devs n.ls)]) ∧ Below W.heap.size W W' := by
  have HC := hide (fun w h => netCheck_walk n w h)
  have hb1 : Below W.heap.size W (W.alloc (.cells #[.slice n.dA n.dn n.dc, .slice n.lA n.ln n.lc] 25)) := (Below.refl _ _).alloc (Nat.le_refl _) _
  have hx := BoxS.new W (.slice n.dA n.dn n.dc) (.slice n.lA n.ln n.lc) 25
  have hn1 := hn.below hb1 hb1.size
  clear hn
  have HE := hide (show netE n.devs n.ls = netE n.devs n.ls from rfl)
  obtain ⟨dA, dn, dc, ds, lA, ln, lc, ls⟩ := n
  simp only [NetV.val] at *
  generalize netE (NetV.devs ⟨dA, dn, dc, ds, lA, ln, lc, ls⟩) ls = E at *
  have d1 : (E != 0) = true := by simpa using hE
  clear hE
  go_enter Try.func44, Try.ntmps44
  go_wp2_with fail
  generalize World.alloc W _ = W1 at *
  refine (HC.out W1 hn1).mono ?_
  rintro e w2 ⟨rfl, hb⟩
  have HB := hide (hb1.trans (hb.mono hb1.size))
  clear hb hb1 hn1 hx HC HE
  go_wp2
  go_ret2
  exact ⟨rfl, HB.out⟩

set_option maxRecDepth 100000 in
set_option maxHeartbeats 4000000 in
theorem stepNew_ok2 (n : NetV) (W : World) (hn : NetAt W W.heap.size n) (hE : netE n.devs n.ls = 0) :
    Calls Try.prog 44 #[n.val] W fun e W' => ∃ (g f o b : Nat) (n' : NetV), e = .returned (.tuple #[.pointer (some ⟨g, 0, none⟩), .int .i64 0]) ∧ MemAt W' g n' f o b MS.empty 0 ∧ n'.devs = n.devs ∧ n'.ls = n.ls ∧
      (W.heap.size ≤ g ∧ W.heap.size ≤ f ∧ W.heap.size ≤ o ∧ W.heap.size ≤ b) ∧ Below W.heap.size W W' ∧ NetOn W.heap.size n' := by
  have hmm := @run_makeMap Try.prog
  have HC := hide (fun w h => netCheck_walk n w h)
  have hok := netE_ok hE
  have hdv := net_devs_ok hE
  have hdn : n.dn ≤ 10 := by have h1 := hok.dl; rw [NetV.devs, List.length_map, hn.dlen] at h1; exact h1
  have hln : n.ln ≤ 15 := by have h1 := hok.ll; rw [hn.llen] at h1; exact h1
  have HCP := hide (fun w h => copyOf_walk2 n w h hdn hln (fun d hd => by
    have h1 := hdv d.dev (List.mem_map.2 ⟨d, hd, rfl⟩)
    have h2 := hn.dok d hd
    exact ⟨by have := h1.bl; have e : d.bs.length = d.bn := h2.bs.1; simp only [DevV.dev] at this; omega, by have := h1.rl; have e : d.rs.length = d.rn := h2.rs.1; simp only [DevV.dev] at this; omega, by have := h1.tl; have e : d.ts.length = d.tn := h2.ts.1; simp only [DevV.dev] at this; omega⟩))
  have hb1 : Below W.heap.size W (W.alloc (.cells #[.slice n.dA n.dn n.dc, .slice n.lA n.ln n.lc] 25)) := (Below.refl _ _).alloc (Nat.le_refl _) _
  have hx := BoxS.new W (.slice n.dA n.dn n.dc) (.slice n.lA n.ln n.lc) 25
  have HN := hide (fun w' (hb : Below W.heap.size W w') => hn.below hb hb.size)
  have hz : (W.alloc (.cells #[.slice n.dA n.dn n.dc, .slice n.lA n.ln n.lc] 25)).heap.size = W.heap.size + 1 := by simp
  clear hn hok hdv hdn hln
  have HE := hide hE
  clear hE
  obtain ⟨dA, dn, dc, ds, lA, ln, lc, ls⟩ := n
  simp only [NetV.val] at *
  rw [HE.out] at HC
  go_enter Try.func44, Try.ntmps44
  go_wp2_with fail
  generalize World.alloc W _ = W1 at *
  refine (HC.out W1 (HN.out _ hb1)).mono ?_
  rintro e w2 ⟨rfl, hb⟩
  have HB2 := hide (hb1.trans (hb.mono hb1.size))
  obtain ⟨k0, k1, _, _⟩ := hx.below hb (by omega)
  clear hb hb1 HC HE hz hx
  go_wp2_with fail
  refine (HCP.out w2 (HN.out _ HB2.out)).mono ?_
  clear HCP k0 k1
  rintro e w3 ⟨n', rfl, hn3, hdv, hls, hb3, hno⟩
  have HNO := hide (hno.less HB2.out.size)
  have HB3 := hide (HB2.out.trans (hb3.mono HB2.out.size))
  have HM := hide (mem_made w3 n' hn3 154)
  have HD := hide hdv
  have HL := hide hls
  clear hb3 hn3 HB2 hdv hls hno
  simp only [NetV.val]
  go_wp2
  go_ret2
  have hs3 := HB3.out.size
  exact ⟨_, _, _, _, n', rfl, HM.out, HD.out, HL.out, ⟨by omega, by omega, by omega, by omega⟩, (((HB3.out.alloc hs3 _).alloc (by simp; omega) _).alloc (by simp; omega) _).alloc (by simp; omega) _, HNO.out⟩
theorem stepNew_ok (n : NetV) (W : World) (hn : NetAt W W.heap.size n) (hE : netE n.devs n.ls = 0) :
    Calls Try.prog 44 #[n.val] W fun e W' => ∃ (g f o b : Nat) (n' : NetV), e = .returned (.tuple #[.pointer (some ⟨g, 0, none⟩), .int .i64 0]) ∧ MemAt W' g n' f o b MS.empty 0 ∧ n'.devs = n.devs ∧ n'.ls = n.ls ∧
      (W.heap.size ≤ g ∧ W.heap.size ≤ f ∧ W.heap.size ≤ o ∧ W.heap.size ≤ b) ∧ Below W.heap.size W W' :=
  (stepNew_ok2 n W hn hE).mono fun e w' ⟨g, f, o, b, n', h1, h2, h3, h4, h5, h6, _⟩ => ⟨g, f, o, b, n', h1, h2, h3, h4, h5, h6⟩
end Go.Proofs.Ytidikopjfpioaaa
