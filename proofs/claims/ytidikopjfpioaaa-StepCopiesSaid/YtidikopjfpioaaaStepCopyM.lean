/- maps.Clone of a memory's maps; a memory's copy. -/
import Derived.Test.YtidikopjfpioaaaStepHand
import Derived.Shelf.SlMaps.Clone
set_option linter.unusedVariables false
set_option linter.unusedSimpArgs false
namespace Go.Proofs.Ytidikopjfpioaaa
open Go.RowKit Go.Maps

theorem MapIs.cloned {α : Type} {P : Program} {kt : TypeId} {key : α → Value} {dom : α → Prop} {w : World} {b : Nat} {M : α → Option Value} (h : MapIs P kt key dom w b M) :
    ∃ es c, w.heap[b]? = some (.map es c) ∧ MapIs P kt key dom (w.alloc (.map es c)) w.heap.size M := by
  obtain ⟨D, h1, h2, h3⟩ := h
  obtain ⟨es, clock, hb, F, hs, hD⟩ := h1
  exact ⟨es, clock, hb, D, ⟨es, clock, (MapKept.heap_alloc w _).1, F, hs, hD⟩, h2, h3⟩

set_option maxRecDepth 100000 in
set_option maxHeartbeats 4000000 in
theorem cloneF_walk (b : Nat) (es : Array MapEntry) (clock : Nat) (w : World) (hb : w.heap[b]? = some (.map es clock)) :
    Calls Try.prog 115 #[.map (some b)] w fun e w' => e = .returned (.map (some w.heap.size)) ∧ w' = w.alloc (.map es clock) := by
  have hq := fun w => run_eql_map_nil_sl (P := Try.prog) w 150 _ _ (some b) Try.underlying150
  go_enter Try.func115, Try.ntmps115
  go_wp2
  rw [run_callFunc_extern Try.func145 (by kernel_rfl) (by kernel_rfl) (by kernel_rfl) (e := Extern.MapsClone.clone) (by kernel_rfl), run_maps_clone_sl w 150 hb]
  simp only [Result.andThen]
  rw [Oper.upon_value]
  go_wp2
  rw [run_typeAssert_map_sl _ 150 _ _ _ _ Try.underlying150]
  simp only [Result.andThen]
  rw [Oper.upon_value]
  go_wp2
  go_ret
  exact ⟨rfl, rfl⟩
set_option maxRecDepth 100000 in
set_option maxHeartbeats 4000000 in
theorem cloneO_walk (b : Nat) (es : Array MapEntry) (clock : Nat) (w : World) (hb : w.heap[b]? = some (.map es clock)) :
    Calls Try.prog 116 #[.map (some b)] w fun e w' => e = .returned (.map (some w.heap.size)) ∧ w' = w.alloc (.map es clock) := by
  have hq := fun w => run_eql_map_nil_sl (P := Try.prog) w 151 _ _ (some b) Try.underlying151
  go_enter Try.func116, Try.ntmps116
  go_wp2
  rw [run_callFunc_extern Try.func145 (by kernel_rfl) (by kernel_rfl) (by kernel_rfl) (e := Extern.MapsClone.clone) (by kernel_rfl), run_maps_clone_sl w 151 hb]
  simp only [Result.andThen]
  rw [Oper.upon_value]
  go_wp2
  rw [run_typeAssert_map_sl _ 151 _ _ _ _ Try.underlying151]
  simp only [Result.andThen]
  rw [Oper.upon_value]
  go_wp2
  go_ret
  exact ⟨rfl, rfl⟩
set_option maxRecDepth 100000 in
set_option maxHeartbeats 4000000 in
theorem cloneB_walk (b : Nat) (es : Array MapEntry) (clock : Nat) (w : World) (hb : w.heap[b]? = some (.map es clock)) :
    Calls Try.prog 117 #[.map (some b)] w fun e w' => e = .returned (.map (some w.heap.size)) ∧ w' = w.alloc (.map es clock) := by
  have hq := fun w => run_eql_map_nil_sl (P := Try.prog) w 152 _ _ (some b) Try.underlying152
  go_enter Try.func117, Try.ntmps117
  go_wp2
  rw [run_callFunc_extern Try.func145 (by kernel_rfl) (by kernel_rfl) (by kernel_rfl) (e := Extern.MapsClone.clone) (by kernel_rfl), run_maps_clone_sl w 152 hb]
  simp only [Result.andThen]
  rw [Oper.upon_value]
  go_wp2
  rw [run_typeAssert_map_sl _ 152 _ _ _ _ Try.underlying152]
  simp only [Result.andThen]
  rw [Oper.upon_value]
  go_wp2
  go_ret
  exact ⟨rfl, rfl⟩

/-- What of a copy stands so far. -/
structure CPM (W : World) (M : MS) (x y z : Option Nat) (w : World) : Prop where
  bl : Below W.heap.size W w
  f : ∀ i, x = some i → MapIs Try.prog 162 ofVal ofDom w i (flowsV M) ∧ i < w.heap.size ∧ W.heap.size ≤ i
  o : ∀ i, y = some i → MapIs Try.prog 165 poVal poDom w i (ownersV M) ∧ i < w.heap.size ∧ W.heap.size ≤ i
  b : ∀ i, z = some i → MapIs Try.prog 162 ofVal ofDom w i (backsV M) ∧ i < w.heap.size ∧ W.heap.size ≤ i
  xy : ∀ i j, x = some i → y = some j → i ≠ j
  xz : ∀ i j, x = some i → z = some j → i ≠ j
  yz : ∀ i j, y = some i → z = some j → i ≠ j
section
variable {W w w' : World} {M : MS} {x y z : Option Nat} {g : Nat} {n : NetV} {f o b k : Nat}
theorem CPM.start (W : World) (M : MS) : CPM W M none none none W :=
  ⟨Below.refl _ _, fun _ h => (nomatch h), fun _ h => (nomatch h), fun _ h => (nomatch h), fun _ _ h => (nomatch h), fun _ _ h => (nomatch h), fun _ _ h => (nomatch h)⟩
theorem CPM.below (h : CPM W M x y z w) (hb : Below w.heap.size w w') : CPM W M x y z w' :=
  ⟨h.bl.trans (hb.mono h.bl.size), fun i e => ⟨(h.f i e).1.below hb (h.f i e).2.1, Nat.lt_of_lt_of_le (h.f i e).2.1 hb.size, (h.f i e).2.2⟩, fun i e => ⟨(h.o i e).1.below hb (h.o i e).2.1, Nat.lt_of_lt_of_le (h.o i e).2.1 hb.size, (h.o i e).2.2⟩,
    fun i e => ⟨(h.b i e).1.below hb (h.b i e).2.1, Nat.lt_of_lt_of_le (h.b i e).2.1 hb.size, (h.b i e).2.2⟩, h.xy, h.xz, h.yz⟩
theorem CPM.d (h : CPM W M x y z w) : CPM W M x y z w.drew := h.below (Below.refl _ _).drew
theorem CPM.callF (hM : MemAt W g n f o b M k) (h : CPM W M none y z w) :
    Calls Try.prog 115 #[.map (some f)] w fun e w' => e = .returned (.map (some w.heap.size)) ∧ CPM W M (some w.heap.size) y z w' := by
  obtain ⟨es, c, h1, h2⟩ := (hM.mf.below h.bl hM.flt).cloned
  refine (cloneF_walk f es c w h1).mono fun e w' ⟨he, hw⟩ => ⟨he, ?_⟩
  subst hw
  have hb : Below w.heap.size w (w.alloc (.map es c)) := (Below.refl _ _).alloc (Nat.le_refl _) _
  have q := h.below hb
  refine ⟨q.bl, fun i e => ?_, q.o, q.b, fun i j e e2 => ?_, fun i j e e2 => ?_, q.yz⟩
  · obtain rfl := Option.some.inj e
    exact ⟨h2, by simp, h.bl.size⟩
  · obtain rfl := Option.some.inj e
    have := (h.o j e2).2.1
    omega
  · obtain rfl := Option.some.inj e
    have := (h.b j e2).2.1
    omega
theorem CPM.callO (hM : MemAt W g n f o b M k) (h : CPM W M x none z w) :
    Calls Try.prog 116 #[.map (some o)] w fun e w' => e = .returned (.map (some w.heap.size)) ∧ CPM W M x (some w.heap.size) z w' := by
  obtain ⟨es, c, h1, h2⟩ := (hM.mo.below h.bl hM.olt).cloned
  refine (cloneO_walk o es c w h1).mono fun e w' ⟨he, hw⟩ => ⟨he, ?_⟩
  subst hw
  have hb : Below w.heap.size w (w.alloc (.map es c)) := (Below.refl _ _).alloc (Nat.le_refl _) _
  have q := h.below hb
  refine ⟨q.bl, q.f, fun i e => ?_, q.b, fun i j e e2 => ?_, q.xz, fun i j e e2 => ?_⟩
  · obtain rfl := Option.some.inj e
    exact ⟨h2, by simp, h.bl.size⟩
  · obtain rfl := Option.some.inj e2
    have := (h.f i e).2.1
    omega
  · obtain rfl := Option.some.inj e
    have := (h.b j e2).2.1
    omega
theorem CPM.callB (hM : MemAt W g n f o b M k) (h : CPM W M x y none w) :
    Calls Try.prog 117 #[.map (some b)] w fun e w' => e = .returned (.map (some w.heap.size)) ∧ CPM W M x y (some w.heap.size) w' := by
  obtain ⟨es, c, h1, h2⟩ := (hM.mb.below h.bl hM.blt).cloned
  refine (cloneB_walk b es c w h1).mono fun e w' ⟨he, hw⟩ => ⟨he, ?_⟩
  subst hw
  have hb : Below w.heap.size w (w.alloc (.map es c)) := (Below.refl _ _).alloc (Nat.le_refl _) _
  have q := h.below hb
  refine ⟨q.bl, q.f, q.o, fun i e => ?_, q.xy, fun i j e e2 => ?_, fun i j e e2 => ?_⟩
  · obtain rfl := Option.some.inj e
    exact ⟨h2, by simp, h.bl.size⟩
  · obtain rfl := Option.some.inj e2
    have := (h.f i e).2.1
    omega
  · obtain rfl := Option.some.inj e2
    have := (h.o i e).2.1
    omega
theorem MemAt.cells5 (h : MemAt w g n f o b M k) : w.cell? ⟨g, 0, none⟩ = some (.slice n.dA n.dn n.dc) ∧ w.cell? ⟨g, 1, none⟩ = some (.slice n.lA n.ln n.lc) ∧ w.cell? ⟨g, 2, none⟩ = some (.map (some f)) ∧ w.cell? ⟨g, 3, none⟩ = some (.map (some o)) ∧ w.cell? ⟨g, 4, none⟩ = some (.map (some b)) := ⟨h.c0, h.c1, h.c2, h.c3, h.c4⟩
theorem CPM.done {i j l : Nat} (hM : MemAt W g n f o b M k) (h : CPM W M (some i) (some j) (some l) w) (t : TypeId) :
    ∃ g' f' o' b', Ending.returned (.pointer (some ⟨w.heap.size, 0, none⟩)) = .returned (.pointer (some ⟨g', 0, none⟩)) ∧ MemAt (w.alloc (.cells #[.slice n.dA n.dn n.dc, .slice n.lA n.ln n.lc, .map (some i), .map (some j), .map (some l)] t)) g' n f' o' b' M k ∧ (W.heap.size ≤ g' ∧ W.heap.size ≤ f' ∧ W.heap.size ≤ o' ∧ W.heap.size ≤ b') ∧ Below W.heap.size W (w.alloc (.cells #[.slice n.dA n.dn n.dc, .slice n.lA n.ln n.lc, .map (some i), .map (some j), .map (some l)] t)) := by
  have hb : Below w.heap.size w (w.alloc (.cells #[.slice n.dA n.dn n.dc, .slice n.lA n.ln n.lc, .map (some i), .map (some j), .map (some l)] t)) := (Below.refl _ _).alloc (Nat.le_refl _) _
  have hx := BoxV.new w #[.slice n.dA n.dn n.dc, .slice n.lA n.ln n.lc, .map (some i), .map (some j), .map (some l)] t
  have q := h.below hb
  exact ⟨w.heap.size, i, j, l, rfl, ⟨hx.1 0 _ rfl, hx.1 1 _ rfl, hx.1 2 _ rfl, hx.1 3 _ rfl, hx.1 4 _ rfl, hM.net.below q.bl q.bl.size, (q.f i rfl).1, (q.o j rfl).1, (q.b l rfl).1, h.xy _ _ rfl rfl, h.xz _ _ rfl rfl, h.yz _ _ rfl rfl, hM.lf, hM.lo, hM.lb, hM.oo, hM.ob⟩,
    ⟨h.bl.size, (h.f i rfl).2.2, (h.o j rfl).2.2, (h.b l rfl).2.2⟩, q.bl⟩
end

set_option maxRecDepth 100000 in
set_option maxHeartbeats 8000000 in
theorem memCopy_walk (g : Nat) (n : NetV) (f o b : Nat) (M : MS) (k : Nat) (W : World) (hM : MemAt W g n f o b M k) :
    Calls Try.prog 56 #[.pointer (some ⟨g, 0, none⟩)] W fun e W' => ∃ g' f' o' b', e = .returned (.pointer (some ⟨g', 0, none⟩)) ∧ MemAt W' g' n f' o' b' M k ∧ (W.heap.size ≤ g' ∧ W.heap.size ≤ f' ∧ W.heap.size ≤ o' ∧ W.heap.size ≤ b') ∧ Below W.heap.size W W' := by
  have HM := hide hM
  have HG := hide (CPM.start W M)
  have HL := hide hM.glt
  have HF := hide (fun (w' : World) (y z) (h : CPM W M none y z w') => h.callF HM.out)
  have HO := hide (fun (w' : World) (x z) (h : CPM W M x none z w') => h.callO HM.out)
  have HB := hide (fun (w' : World) (x y) (h : CPM W M x y none w') => h.callB HM.out)
  have c0 := hM.c0
  have c1 := hM.c1
  have c2 := hM.c2
  have c3 := hM.c3
  have c4 := hM.c4
  clear hM
  go_enter Try.func56, Try.ntmps56
  go_wp2_with fail
  go_region_held3 (fun w' => w'.cell? ⟨g, 0, none⟩ = some (.slice n.dA n.dn n.dc) ∧ w'.cell? ⟨g, 1, none⟩ = some (.slice n.lA n.ln n.lc) ∧ w'.cell? ⟨g, 2, none⟩ = some (.map (some f)) ∧ w'.cell? ⟨g, 3, none⟩ = some (.map (some o)) ∧ w'.cell? ⟨g, 4, none⟩ = some (.map (some b))) (go_keep) (first | (go_at_call 115; refine (HF.out _ _ _ (by first | exact HG.out.d | exact HG.out)).mono ?_; rintro e wp ⟨rfl, hg⟩; have HG := hide hg; clear hg; obtain ⟨c0, c1, c2, c3, c4⟩ := (HM.out.below HG.out.bl).cells5) | (go_at_call 116; refine (HO.out _ _ _ (by first | exact HG.out.d | exact HG.out)).mono ?_; rintro e wp ⟨rfl, hg⟩; have HG := hide hg; clear hg; obtain ⟨c0, c1, c2, c3, c4⟩ := (HM.out.below HG.out.bl).cells5) | (go_at_call 117; refine (HB.out _ _ _ (by first | exact HG.out.d | exact HG.out)).mono ?_; rintro e wp ⟨rfl, hg⟩; have HG := hide hg; clear hg; obtain ⟨c0, c1, c2, c3, c4⟩ := (HM.out.below HG.out.bl).cells5))
  all_goals (go_wp2; go_ret; first | exact HG.out.done HM.out _ | exact HG.out.d.done HM.out _)
end Go.Proofs.Ytidikopjfpioaaa
