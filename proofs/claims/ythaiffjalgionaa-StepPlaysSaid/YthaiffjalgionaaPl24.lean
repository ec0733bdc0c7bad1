/- A part of the proof: StepCopyM, Opens, LawTwo, PlayA. -/
import Derived.Test.YthaiffjalgionaaPl23
import Derived.Shelf.SlMaps.Clone
/- maps.Clone of a memory's maps; a memory's copy. -/
set_option linter.unusedVariables false
set_option linter.unusedSimpArgs false
namespace Go.Proofs.Ythaiffjalgionaa
open Go.RowKit Go.Maps

theorem MapIs.cloned {α : Type} {P : Program} {kt : TypeId} {key : α → Value} {dom : α → Prop} {w : World} {b : Nat} {M : α → Option Value} (h : MapIs P kt key dom w b M) :
    ∃ es c, w.heap[b]? = some (.map es c) ∧ MapIs P kt key dom (w.alloc (.map es c)) w.heap.size M := by
  obtain ⟨D, h1, h2, h3⟩ := h
  obtain ⟨es, clock, hb, F, hs, hD⟩ := h1
  exact ⟨es, clock, hb, D, ⟨es, clock, (MapKept.heap_alloc w _).1, F, hs, hD⟩, h2, h3⟩

set_option maxRecDepth 100000 in
set_option maxHeartbeats 4000000 in
theorem cloneF_walk (b : Nat) (es : Array MapEntry) (clock : Nat) (w : World) (hb : w.heap[b]? = some (.map es clock)) :
    Calls Try.prog 81 #[.map (some b)] w fun e w' => e = .returned (.map (some w.heap.size)) ∧ w' = w.alloc (.map es clock) := by
  have hq := fun w => run_eql_map_nil_sl (P := Try.prog) w 124 _ _ (some b) Try.underlying124
  go_enter Try.func81, Try.ntmps81
  go_wp2
  rw [run_callFunc_extern Try.func144 (by kernel_rfl) (by kernel_rfl) (by kernel_rfl) (e := Extern.MapsClone.clone) (by kernel_rfl), run_maps_clone_sl w 124 hb]
  simp only [Result.andThen]
  rw [Oper.upon_value]
  go_wp2
  rw [run_typeAssert_map_sl _ 124 _ _ _ _ Try.underlying124]
  simp only [Result.andThen]
  rw [Oper.upon_value]
  go_wp2
  go_ret
  exact ⟨rfl, rfl⟩
set_option maxRecDepth 100000 in
set_option maxHeartbeats 4000000 in
theorem cloneO_walk (b : Nat) (es : Array MapEntry) (clock : Nat) (w : World) (hb : w.heap[b]? = some (.map es clock)) :
    Calls Try.prog 82 #[.map (some b)] w fun e w' => e = .returned (.map (some w.heap.size)) ∧ w' = w.alloc (.map es clock) := by
  have hq := fun w => run_eql_map_nil_sl (P := Try.prog) w 125 _ _ (some b) Try.underlying125
  go_enter Try.func82, Try.ntmps82
  go_wp2
  rw [run_callFunc_extern Try.func144 (by kernel_rfl) (by kernel_rfl) (by kernel_rfl) (e := Extern.MapsClone.clone) (by kernel_rfl), run_maps_clone_sl w 125 hb]
  simp only [Result.andThen]
  rw [Oper.upon_value]
  go_wp2
  rw [run_typeAssert_map_sl _ 125 _ _ _ _ Try.underlying125]
  simp only [Result.andThen]
  rw [Oper.upon_value]
  go_wp2
  go_ret
  exact ⟨rfl, rfl⟩
set_option maxRecDepth 100000 in
set_option maxHeartbeats 4000000 in
theorem cloneB_walk (b : Nat) (es : Array MapEntry) (clock : Nat) (w : World) (hb : w.heap[b]? = some (.map es clock)) :
    Calls Try.prog 83 #[.map (some b)] w fun e w' => e = .returned (.map (some w.heap.size)) ∧ w' = w.alloc (.map es clock) := by
  have hq := fun w => run_eql_map_nil_sl (P := Try.prog) w 126 _ _ (some b) Try.underlying126
  go_enter Try.func83, Try.ntmps83
  go_wp2
  rw [run_callFunc_extern Try.func144 (by kernel_rfl) (by kernel_rfl) (by kernel_rfl) (e := Extern.MapsClone.clone) (by kernel_rfl), run_maps_clone_sl w 126 hb]
  simp only [Result.andThen]
  rw [Oper.upon_value]
  go_wp2
  rw [run_typeAssert_map_sl _ 126 _ _ _ _ Try.underlying126]
  simp only [Result.andThen]
  rw [Oper.upon_value]
  go_wp2
  go_ret
  exact ⟨rfl, rfl⟩

/-- What of a copy stands so far. -/
structure CPM (W : World) (M : MS) (x y z : Option Nat) (w : World) : Prop where
  bl : Below W.heap.size W w
  f : ∀ i, x = some i → MapIs Try.prog 149 ofVal ofDom w i (flowsV M) ∧ i < w.heap.size ∧ W.heap.size ≤ i
  o : ∀ i, y = some i → MapIs Try.prog 152 poVal poDom w i (ownersV M) ∧ i < w.heap.size ∧ W.heap.size ≤ i
  b : ∀ i, z = some i → MapIs Try.prog 149 ofVal ofDom w i (backsV M) ∧ i < w.heap.size ∧ W.heap.size ≤ i
  xy : ∀ i j, x = some i → y = some j → i ≠ j
  xz : ∀ i j, x = some i → z = some j → i ≠ j
  yz : ∀ i j, y = some i → z = some j → i ≠ j
section
variable {W w w' : World} {M : MS} {x y z : Option Nat} {g : Nat} {n : NetV} {f o b k : Nat}
theorem CPM.start (W : World) (M : MS) : CPM W M none none none W :=
  ⟨Below.refl _ _, fun _ h => (nomatch h), fun _ h => (nomatch h), fun _ h => (nomatch h), fun _ _ h => (nomatch h), fun _ _ h => (nomatch h), fun _ _ h => (nomatch h)⟩
theorem CPM.below (h : CPM W M x y z w) (hb : Below w.heap.size w w') : CPM W M x y z w' :=
  ⟨h.bl.trans (hb.mono h.bl.size), fun i e => ⟨(h.f i e).1.below hb (h.f i e).2.1, Nat.lt_of_lt_of_le (h.f i e).2.1 hb.size, (h.f i e).2.2⟩, fun i e => ⟨(h.o i e).1.below hb (h.o i e).2.1, Nat.lt_of_lt_of_le (h.o i e).2.1 hb.size, (h.o i e).2.2⟩,
    fun i e => ⟨(h.b i e).1.below hb (h.b i e).2.1, Nat.lt_of_lt_of_le (h.b i e).2.1 hb.size, (h.b i e).2.2⟩, h.xy, h.xz, h.yz⟩
theorem CPM.d (h : CPM W M x y z w) : CPM W M x y z w.drew := h.below (Below.refl _ _).drew
theorem CPM.callF (hM : MemAt W g n f o b M k) (h : CPM W M none y z w) :
    Calls Try.prog 81 #[.map (some f)] w fun e w' => e = .returned (.map (some w.heap.size)) ∧ CPM W M (some w.heap.size) y z w' := by
  obtain ⟨es, c, h1, h2⟩ := (hM.mf.below h.bl hM.flt).cloned
  refine (cloneF_walk f es c w h1).mono fun e w' ⟨he, hw⟩ => ⟨he, ?_⟩
  subst hw
  have hb : Below w.heap.size w (w.alloc (.map es c)) := (Below.refl _ _).alloc (Nat.le_refl _) _
  have q := h.below hb
  refine ⟨q.bl, fun i e => ?_, q.o, q.b, fun i j e e2 => ?_, fun i j e e2 => ?_, q.yz⟩
  · obtain rfl := Option.some.inj e
    exact ⟨h2, by simp, h.bl.size⟩
  · obtain rfl := Option.some.inj e
    have := (h.o j e2).2.1
    omega
  · obtain rfl := Option.some.inj e
    have := (h.b j e2).2.1
    omega
theorem CPM.callO (hM : MemAt W g n f o b M k) (h : CPM W M x none z w) :
    Calls Try.prog 82 #[.map (some o)] w fun e w' => e = .returned (.map (some w.heap.size)) ∧ CPM W M x (some w.heap.size) z w' := by
  obtain ⟨es, c, h1, h2⟩ := (hM.mo.below h.bl hM.olt).cloned
  refine (cloneO_walk o es c w h1).mono fun e w' ⟨he, hw⟩ => ⟨he, ?_⟩
  subst hw
  have hb : Below w.heap.size w (w.alloc (.map es c)) := (Below.refl _ _).alloc (Nat.le_refl _) _
  have q := h.below hb
  refine ⟨q.bl, q.f, fun i e => ?_, q.b, fun i j e e2 => ?_, q.xz, fun i j e e2 => ?_⟩
  · obtain rfl := Option.some.inj e
    exact ⟨h2, by simp, h.bl.size⟩
  · obtain rfl := Option.some.inj e2
    have := (h.f i e).2.1
    omega
  · obtain rfl := Option.some.inj e
    have := (h.b j e2).2.1
    omega
theorem CPM.callB (hM : MemAt W g n f o b M k) (h : CPM W M x y none w) :
    Calls Try.prog 83 #[.map (some b)] w fun e w' => e = .returned (.map (some w.heap.size)) ∧ CPM W M x y (some w.heap.size) w' := by
  obtain ⟨es, c, h1, h2⟩ := (hM.mb.below h.bl hM.blt).cloned
  refine (cloneB_walk b es c w h1).mono fun e w' ⟨he, hw⟩ => ⟨he, ?_⟩
  subst hw
  have hb : Below w.heap.size w (w.alloc (.map es c)) := (Below.refl _ _).alloc (Nat.le_refl _) _
  have q := h.below hb
  refine ⟨q.bl, q.f, q.o, fun i e => ?_, q.xy, fun i j e e2 => ?_, fun i j e e2 => ?_⟩
  · obtain rfl := Option.some.inj e
    exact ⟨h2, by simp, h.bl.size⟩
  · obtain rfl := Option.some.inj e2
    have := (h.f i e).2.1
    omega
  · obtain rfl := Option.some.inj e2
    have := (h.o i e).2.1
    omega
theorem MemAt.cells5 (h : MemAt w g n f o b M k) : w.cell? ⟨g, 0, none⟩ = some (.slice n.dA n.dn n.dc) ∧ w.cell? ⟨g, 1, none⟩ = some (.slice n.lA n.ln n.lc) ∧ w.cell? ⟨g, 2, none⟩ = some (.map (some f)) ∧ w.cell? ⟨g, 3, none⟩ = some (.map (some o)) ∧ w.cell? ⟨g, 4, none⟩ = some (.map (some b)) := ⟨h.c0, h.c1, h.c2, h.c3, h.c4⟩
theorem CPM.done {i j l : Nat} (hM : MemAt W g n f o b M k) (h : CPM W M (some i) (some j) (some l) w) (t : TypeId) :
    ∃ g' f' o' b', Ending.returned (.pointer (some ⟨w.heap.size, 0, none⟩)) = .returned (.pointer (some ⟨g', 0, none⟩)) ∧ MemAt (w.alloc (.cells #[.slice n.dA n.dn n.dc, .slice n.lA n.ln n.lc, .map (some i), .map (some j), .map (some l)] t)) g' n f' o' b' M k ∧ (W.heap.size ≤ g' ∧ W.heap.size ≤ f' ∧ W.heap.size ≤ o' ∧ W.heap.size ≤ b') ∧ Below W.heap.size W (w.alloc (.cells #[.slice n.dA n.dn n.dc, .slice n.lA n.ln n.lc, .map (some i), .map (some j), .map (some l)] t)) := by
  have hb : Below w.heap.size w (w.alloc (.cells #[.slice n.dA n.dn n.dc, .slice n.lA n.ln n.lc, .map (some i), .map (some j), .map (some l)] t)) := (Below.refl _ _).alloc (Nat.le_refl _) _
  have hx := BoxV.new w #[.slice n.dA n.dn n.dc, .slice n.lA n.ln n.lc, .map (some i), .map (some j), .map (some l)] t
  have q := h.below hb
  exact ⟨w.heap.size, i, j, l, rfl, ⟨hx.1 0 _ rfl, hx.1 1 _ rfl, hx.1 2 _ rfl, hx.1 3 _ rfl, hx.1 4 _ rfl, hM.net.below q.bl q.bl.size, (q.f i rfl).1, (q.o j rfl).1, (q.b l rfl).1, h.xy _ _ rfl rfl, h.xz _ _ rfl rfl, h.yz _ _ rfl rfl, hM.lf, hM.lo, hM.lb, hM.oo, hM.ob⟩,
    ⟨h.bl.size, (h.f i rfl).2.2, (h.o j rfl).2.2, (h.b l rfl).2.2⟩, q.bl⟩
end

set_option maxRecDepth 100000 in
set_option maxHeartbeats 8000000 in
theorem memCopy_walk (g : Nat) (n : NetV) (f o b : Nat) (M : MS) (k : Nat) (W : World) (hM : MemAt W g n f o b M k) :
    Calls Try.prog 17 #[.pointer (some ⟨g, 0, none⟩)] W fun e W' => ∃ g' f' o' b', e = .returned (.pointer (some ⟨g', 0, none⟩)) ∧ MemAt W' g' n f' o' b' M k ∧ (W.heap.size ≤ g' ∧ W.heap.size ≤ f' ∧ W.heap.size ≤ o' ∧ W.heap.size ≤ b') ∧ Below W.heap.size W W' := by
  have HM := hide hM
  have HG := hide (CPM.start W M)
  have HL := hide hM.glt
  have HF := hide (fun (w' : World) (y z) (h : CPM W M none y z w') => h.callF HM.out)
  have HO := hide (fun (w' : World) (x z) (h : CPM W M x none z w') => h.callO HM.out)
  have HB := hide (fun (w' : World) (x y) (h : CPM W M x y none w') => h.callB HM.out)
  have c0 := hM.c0
  have c1 := hM.c1
  have c2 := hM.c2
  have c3 := hM.c3
  have c4 := hM.c4
  clear hM
  go_enter Try.func17, Try.ntmps17
  go_wp2_with fail
  go_region_held3 (fun w' => w'.cell? ⟨g, 0, none⟩ = some (.slice n.dA n.dn n.dc) ∧ w'.cell? ⟨g, 1, none⟩ = some (.slice n.lA n.ln n.lc) ∧ w'.cell? ⟨g, 2, none⟩ = some (.map (some f)) ∧ w'.cell? ⟨g, 3, none⟩ = some (.map (some o)) ∧ w'.cell? ⟨g, 4, none⟩ = some (.map (some b))) (go_keep) (first | (go_at_call 81; refine (HF.out _ _ _ (by first | exact HG.out.d | exact HG.out)).mono ?_; rintro e wp ⟨rfl, hg⟩; have HG := hide hg; clear hg; obtain ⟨c0, c1, c2, c3, c4⟩ := (HM.out.below HG.out.bl).cells5) | (go_at_call 82; refine (HO.out _ _ _ (by first | exact HG.out.d | exact HG.out)).mono ?_; rintro e wp ⟨rfl, hg⟩; have HG := hide hg; clear hg; obtain ⟨c0, c1, c2, c3, c4⟩ := (HM.out.below HG.out.bl).cells5) | (go_at_call 83; refine (HB.out _ _ _ (by first | exact HG.out.d | exact HG.out)).mono ?_; rintro e wp ⟨rfl, hg⟩; have HG := hide hg; clear hg; obtain ⟨c0, c1, c2, c3, c4⟩ := (HM.out.below HG.out.bl).cells5))
  all_goals (go_wp2; go_ret; first | exact HG.out.done HM.out _ | exact HG.out.d.done HM.out _)
end Go.Proofs.Ythaiffjalgionaa

/- Arguments opened: places, numbers, packets, acts. -/
set_option linter.unusedVariables false
set_option linter.unusedSimpArgs false
namespace Go.Proofs.Ythaiffjalgionaa
open Go.ChangeShapes Go.WideShapes Go.ChangeAt Go.RowKit

def P4.cells (p : P4) : List Value := [.int .i64 p.src, .int .i64 p.dst, .int .i64 p.sport, .int .i64 p.dport]
theorem P4.len (p : P4) : p.cells.length = 4 := rfl
/-- An act: its kind, its place, its packet, its choice. -/
structure ActV where
  kind : Int
  dev : Int
  port : Int
  p : P4
  ch : Int
def ActV.cells (x : ActV) : List Value := [.int .i64 x.kind, .int .i64 x.dev, .int .i64 x.port, .int .i64 x.p.src, .int .i64 x.p.dst, .int .i64 x.p.sport, .int .i64 x.p.dport, .int .i64 x.ch]
theorem ActV.len (x : ActV) : x.cells.length = 8 := rfl
structure ActV.ok (x : ActV) : Prop where
  k : i64ok x.kind
  d : i64ok x.dev
  y : i64ok x.port
  p : x.p.ok
  c : i64ok x.ch

section
variable {H : Type} {enc : TypeId × Value → H} {w : World} {base : Nat} {spare : Nat → Bool} {held : Bool} {r : Reach} {b0 : Nat}
theorem Try.cellsPlace2 : Try.prog.cellsOf 37 = 2 := by kernel_rfl
theorem Try.cellsPacket4 : Try.prog.cellsOf 39 = 4 := by kernel_rfl
theorem Try.cellsAct8 : Try.prog.cellsOf 41 = 8 := by kernel_rfl
set_option maxRecDepth 100000 in
theorem read_place {n : Nat} {cs : List Value} {y : DataW H × List MemPlace} (h : DataW.trod enc Try.prog w base spare held n 37 cs = some y) : ∃ a b : Int, (i64ok a ∧ i64ok b) ∧ cs = [.int .i64 a, .int .i64 b] := by
  obtain ⟨xs, n', _, _, hlen, hxl, hf⟩ := DataW.trod_struct Try.underlying37 h
  rw [Try.cellsPlace2] at hlen
  match cs, hlen with
  | [c0, c1], _ =>
    have h0 := hf 0 _ rfl
    have h1 := hf 1 _ rfl
    obtain ⟨y0, e0⟩ := get_some (xs := xs) (i := 0) (by rw [hxl]; decide)
    obtain ⟨y1, e1⟩ := get_some (xs := xs) (i := 1) (by rw [hxl]; decide)
    rw [e0] at h0
    rw [e1] at h1
    simp [cellsI1] at h0 h1
    obtain ⟨a, rfl, ha⟩ := trod_i64 h0
    obtain ⟨b, rfl, hb⟩ := trod_i64 h1
    exact ⟨a, b, ⟨ha, hb⟩, rfl⟩
set_option maxRecDepth 100000 in
theorem read_packet {n : Nat} {cs : List Value} {y : DataW H × List MemPlace} (h : DataW.trod enc Try.prog w base spare held n 39 cs = some y) : ∃ p : P4, p.ok ∧ cs = p.cells := by
  obtain ⟨xs, n', _, _, hlen, hxl, hf⟩ := DataW.trod_struct Try.underlying39 h
  rw [Try.cellsPacket4] at hlen
  match cs, hlen with
  | [c0, c1, c2, c3], _ =>
    have h0 := hf 0 _ rfl
    have h1 := hf 1 _ rfl
    have h2 := hf 2 _ rfl
    have h3 := hf 3 _ rfl
    obtain ⟨y0, e0⟩ := get_some (xs := xs) (i := 0) (by rw [hxl]; decide)
    obtain ⟨y1, e1⟩ := get_some (xs := xs) (i := 1) (by rw [hxl]; decide)
    obtain ⟨y2, e2⟩ := get_some (xs := xs) (i := 2) (by rw [hxl]; decide)
    obtain ⟨y3, e3⟩ := get_some (xs := xs) (i := 3) (by rw [hxl]; decide)
    rw [e0] at h0
    rw [e1] at h1
    rw [e2] at h2
    rw [e3] at h3
    simp [cellsI1] at h0 h1 h2 h3
    obtain ⟨a, rfl, ha⟩ := trod_i64 h0
    obtain ⟨b, rfl, hb⟩ := trod_i64 h1
    obtain ⟨c, rfl, hc⟩ := trod_i64 h2
    obtain ⟨d, rfl, hd⟩ := trod_i64 h3
    exact ⟨⟨a, b, c, d⟩, ⟨ha, hb, hc, hd⟩, rfl⟩
set_option maxRecDepth 100000 in
theorem read_act {n : Nat} {cs : List Value} {y : DataW H × List MemPlace} (h : DataW.trod enc Try.prog w base spare held n 41 cs = some y) : ∃ x : ActV, x.ok ∧ cs = x.cells := by
  obtain ⟨xs, n', _, _, hlen, hxl, hf⟩ := DataW.trod_struct Try.underlying41 h
  rw [Try.cellsAct8] at hlen
  match cs, hlen with
  | [c0, c1, c2, c3, c4, c5, c6, c7], _ =>
    have h0 := hf 0 _ rfl
    have h1 := hf 1 _ rfl
    have h2 := hf 2 _ rfl
    have h3 := hf 3 _ rfl
    obtain ⟨y0, e0⟩ := get_some (xs := xs) (i := 0) (by rw [hxl]; decide)
    obtain ⟨y1, e1⟩ := get_some (xs := xs) (i := 1) (by rw [hxl]; decide)
    obtain ⟨y2, e2⟩ := get_some (xs := xs) (i := 2) (by rw [hxl]; decide)
    obtain ⟨y3, e3⟩ := get_some (xs := xs) (i := 3) (by rw [hxl]; decide)
    rw [e0] at h0
    rw [e1] at h1
    rw [e2] at h2
    rw [e3] at h3
    simp [cellsI1, Try.cellsPlace2, Try.cellsPacket4] at h0 h1 h2 h3
    obtain ⟨a, rfl, ha⟩ := trod_i64 h0
    obtain ⟨b, c, hbc, hm⟩ := read_place h1
    obtain ⟨q, hq, hm2⟩ := read_packet h2
    obtain ⟨d, rfl, hd⟩ := trod_i64 h3
    simp only [List.cons.injEq, and_true] at hm
    simp only [P4.cells, List.cons.injEq, and_true] at hm2
    obtain ⟨rfl, rfl⟩ := hm
    obtain ⟨rfl, rfl, rfl, rfl⟩ := hm2
    exact ⟨⟨a, b, c, q, d⟩, ⟨ha, hbc.1, hbc.2, hq, hd⟩, rfl⟩
set_option maxRecDepth 100000 in
theorem open_acts {v : Value} {d : DataW H} {p : List MemPlace} (hv : Value.okWide Try.prog w r b0 26 v) (h : DataW.Trod enc Try.prog w base spare held 26 v d p) :
    ∃ (A : Option Addr) (n c : Nat) (l : List ActV), v = .slice A n c ∧ n ≤ c ∧ c ≤ maxLen ∧ SlAt ActV.cells 8 w w.heap.size A n l ∧ (∀ r ∈ l, r.ok) ∧ (n = 0 ∨ ∃ elems sp, d = .slice elems sp ∧ elems.length = n) :=
  open_elems ActV.cells ActV.ok 8 Try.underlying26 Try.cellsAct8 (by omega) ActV.len (fun _ _ _ h => read_act h) hv h
end
end Go.Proofs.Ythaiffjalgionaa

/- Two memories beside each other; an act of a law's list. -/
set_option linter.unusedVariables false
set_option linter.unusedSimpArgs false
namespace Go.Proofs.Ythaiffjalgionaa
open Go.RowKit Go.Maps

/-- A memory stands while another one's maps turn. -/
theorem MemAt.beside {w w' : World} {g : Nat} {n : NetV} {f o b : Nat} {M : MS} {k : Nat} {g2 : Nat} {n2 : NetV} {f2 o2 b2 : Nat} {M2 : MS} {k2 : Nat} (h : MemAt w g n f o b M k) (h2 : MemAt w g2 n2 f2 o2 b2 M2 k2) (hn : Near (Is3 f2 o2 b2) w.heap.size w w') (hd : ∀ j, Is3 f o b j → ¬ Is3 f2 o2 b2 j) : MemAt w' g n f o b M k := by
  have st := h2.stay hn
  exact ⟨st _ _ trivial h.c0, st _ _ trivial h.c1, st _ _ trivial h.c2, st _ _ trivial h.c3, st _ _ trivial h.c4, h.net.stay st (fun _ _ => trivial) (fun _ _ => trivial) (fun _ _ => ⟨fun _ _ => trivial, fun _ _ => trivial, fun _ _ => trivial⟩) hn.size,
    h.mf.same (hn.block f h.flt (hd f (Or.inl rfl))), h.mo.same (hn.block o h.olt (hd o (Or.inr (Or.inl rfl)))), h.mb.same (hn.block b h.blt (hd b (Or.inr (Or.inr rfl)))), h.nfo, h.nfb, h.nob, h.lf, h.lo, h.lb, h.oo, h.ob⟩
theorem BX.beside {W w w' : World} {L : List (Nat × Array Value)} {p : Nat → Prop} (h : BX W L w) (hn : Near p w.heap.size w w') (ha : ∀ x ∈ L, ¬ p x.1) (hlo : ∀ j, p j → W.heap.size ≤ j) : BX W L w' :=
  ⟨((Near.of_below (p := p) h.bl).trans (hn.mono h.bl.size)).below (Nat.le_refl _) hlo, fun x hx => ⟨(h.bx x hx).1.near hn (h.bx x hx).2 (ha x hx), Nat.lt_of_lt_of_le (h.bx x hx).2 hn.size⟩⟩

section
variable {W w w' : World} {L : List (Nat × Array Value)} {ga : Nat} {na : NetV} {fa oa ba gb : Nat} {nb : NetV} {fb ob bb : Nat} {MA MB MA' MB' : MS} {k k' : Nat}
end
theorem cells8 {w : World} {N : Nat} {a b c d e f g h : Int} (q : BoxV w N #[.int .i64 a, .int .i64 b, .int .i64 c, .int .i64 d, .int .i64 e, .int .i64 f, .int .i64 g, .int .i64 h]) : w.cell? ⟨N, 0, none⟩ = some (.int .i64 a) ∧ w.cell? ⟨N, 1, none⟩ = some (.int .i64 b) ∧ w.cell? ⟨N, 2, none⟩ = some (.int .i64 c) ∧ w.cell? ⟨N, 3, none⟩ = some (.int .i64 d) ∧ w.cell? ⟨N, 4, none⟩ = some (.int .i64 e) ∧ w.cell? ⟨N, 5, none⟩ = some (.int .i64 f) ∧ w.cell? ⟨N, 6, none⟩ = some (.int .i64 g) ∧ w.cell? ⟨N, 7, none⟩ = some (.int .i64 h) :=
  ⟨q.1 0 _ rfl, q.1 1 _ rfl, q.1 2 _ rfl, q.1 3 _ rfl, q.1 4 _ rfl, q.1 5 _ rfl, q.1 6 _ rfl, q.1 7 _ rfl⟩
def ActV.arr (x : ActV) : Array Value := #[.int .i64 x.kind, .int .i64 x.dev, .int .i64 x.port, .int .i64 x.p.src, .int .i64 x.p.dst, .int .i64 x.p.sport, .int .i64 x.p.dport, .int .i64 x.ch]
end Go.Proofs.Ythaiffjalgionaa

/- A memory and a mind side by side: what stands apart from the turned blocks. -/
set_option linter.unusedVariables false
set_option linter.unusedSimpArgs false
namespace Go.Proofs.Ythaiffjalgionaa
open Go.RowKit

section
variable {p : Nat → Prop} {w w' : World} {B B' n : Nat} {A : Option Addr}
theorem StayOn.of_near {q : Nat → Prop} (hn : Near q w.heap.size w w') : StayOn (fun k => ¬ q k) w w' := fun a v hp hv => (World.cell?_of_block (hn.block a.block (cell_lt hv) hp)).trans hv
theorem SlAt.stay0 {α : Type} {cells : α → List Value} {s : Nat} {l : List α} (h : SlAt cells s w B A n l) (hs : StayOn p w w') (hp : 0 < n → ∀ a, A = some a → p a.block) (hB : B ≤ B') : SlAt cells s w' B' A n l :=
  ⟨h.1, fun h0 => by
    obtain ⟨b, o, e, hb, hg⟩ := h.2 h0
    exact ⟨b, o, e, by omega, fun k r hr j v hv => hs _ _ (show p b from hp h0 _ e) (hg k r hr j v hv)⟩⟩
theorem IntsAt.stay0 {l : List Int} (h : IntsAt w B A n l) (hs : StayOn p w w') (hp : 0 < n → ∀ a, A = some a → p a.block) (hB : B ≤ B') : IntsAt w' B' A n l :=
  ⟨h.1, h.2.1, fun h0 => by
    obtain ⟨b, o, e, hb, hg⟩ := h.2.2 h0
    exact ⟨b, o, e, by omega, fun k x hx => hs _ _ (show p b from hp h0 _ e) (hg k x hx)⟩⟩
theorem RulesAt.stay0 {l : List RuleV} (h : RulesAt w B A n l) (hs : StayOn p w w') (hp : 0 < n → ∀ a, A = some a → p a.block) (hB : B ≤ B') : RulesAt w' B' A n l :=
  (h.sl.stay0 hs hp hB).rules h.2.1
/-- A device's slices that hold something lie in blocks of which p holds. -/
structure DevOn0 (p : Nat → Prop) (d : DevV) : Prop where
  b : 0 < d.bn → ∀ a, d.bA = some a → p a.block
  r : 0 < d.rn → ∀ a, d.rA = some a → p a.block
  t : 0 < d.tn → ∀ a, d.tA = some a → p a.block
theorem DevOn0.weak {q : Nat → Prop} {d : DevV} (h : DevOn0 p d) (hq : ∀ k, p k → q k) : DevOn0 q d := ⟨fun z a e => hq _ (h.b z a e), fun z a e => hq _ (h.r z a e), fun z a e => hq _ (h.t z a e)⟩
structure NetOn0 (p : Nat → Prop) (n : NetV) : Prop where
  d : 0 < n.dn → ∀ a, n.dA = some a → p a.block
  l : 0 < n.ln → ∀ a, n.lA = some a → p a.block
  o : ∀ x ∈ n.ds, DevOn0 p x
theorem NetOn0.weak {q : Nat → Prop} {n : NetV} (h : NetOn0 p n) (hq : ∀ k, p k → q k) : NetOn0 q n := ⟨fun z a e => hq _ (h.d z a e), fun z a e => hq _ (h.l z a e), fun x hx => (h.o x hx).weak hq⟩
theorem DevAt.stay0 {d : DevV} (h : DevAt w B d) (hs : StayOn p w w') (hp : DevOn0 p d) (hB : B ≤ B') : DevAt w' B' d :=
  ⟨h.nm, h.kd, h.ad, h.pl, h.bs.stay0 hs hp.b hB, h.rs.stay0 hs hp.r hB, h.ts.stay0 hs hp.t hB, h.tok, h.cb, h.cr, h.ct⟩
theorem NetAt.stay0 {m : NetV} (h : NetAt w B m) (hs : StayOn p w w') (ho : NetOn0 p m) (hB : B ≤ B') : NetAt w' B' m :=
  { ds := h.ds.stay0 hs ho.d hB, dok := fun d hm => (h.dok d hm).stay0 hs (ho.o d hm) hB, ls := h.ls.stay0 hs ho.l hB, lok := h.lok, cd := h.cd, cl := h.cl }
theorem NetAt.on {m : NetV} {K : Nat} (h : NetAt w B m) (ho : NetOn K m) : NetOn0 (fun k => K ≤ k ∧ k < B) m where
  d z a e := ⟨ho.d a e, by obtain ⟨b, o, e2, hb, _⟩ := h.ds.2 z; rw [e] at e2; cases e2; exact hb⟩
  l z a e := ⟨ho.l a e, by obtain ⟨b, o, e2, hb, _⟩ := h.ls.2 z; rw [e] at e2; cases e2; exact hb⟩
  o x hx := ⟨fun z a e => ⟨(ho.o x hx).b a e, by obtain ⟨b, o, e2, hb, _⟩ := (h.dok x hx).bs.2.2 z; rw [e] at e2; cases e2; exact hb⟩,
    fun z a e => ⟨(ho.o x hx).r a e, by obtain ⟨b, o, e2, hb, _⟩ := (h.dok x hx).rs.sl.2 z; rw [e] at e2; cases e2; exact hb⟩,
    fun z a e => ⟨(ho.o x hx).t a e, by obtain ⟨b, o, e2, hb, _⟩ := (h.dok x hx).ts.2 z; rw [e] at e2; cases e2; exact hb⟩⟩
/-- A memory stands where none of its blocks is turned. -/
theorem MemAt.apart {g : Nat} {m : NetV} {f o b : Nat} {M : MS} {k : Nat} {q : Nat → Prop} (h : MemAt w g m f o b M k) (hn : Near q w.heap.size w w') (hg : ¬ q g) (h3 : ∀ j, Is3 f o b j → ¬ q j) (ho : NetOn0 (fun j => ¬ q j) m) : MemAt w' g m f o b M k := by
  have st := StayOn.of_near hn
  exact ⟨st _ _ hg h.c0, st _ _ hg h.c1, st _ _ hg h.c2, st _ _ hg h.c3, st _ _ hg h.c4, h.net.stay0 st ho hn.size,
    h.mf.same (hn.block f h.flt (h3 f (Or.inl rfl))), h.mo.same (hn.block o h.olt (h3 o (Or.inr (Or.inl rfl)))), h.mb.same (hn.block b h.blt (h3 b (Or.inr (Or.inr rfl)))), h.nfo, h.nfb, h.nob, h.lf, h.lo, h.lb, h.oo, h.ob⟩
end
theorem MindAt.apart {w w' : World} {g : Nat} {n : NetV} {A : Option Addr} {c : Nat} {L : List FactV} {q : Nat → Prop} (h : MindAt w g n A c L) (hn : Near q w.heap.size w w') (hq : ¬ q g) (hA : ∀ a, A = some a → ¬ q a.block) (ho : NetOn0 (fun j => ¬ q j) n) : MindAt w' g n A c L := by
  refine ⟨(hn.cell (a := ⟨g, 0, none⟩) h.glt hq).trans h.c0, (hn.cell (a := ⟨g, 1, none⟩) h.glt hq).trans h.c1, (hn.cell (a := ⟨g, 2, none⟩) h.glt hq).trans h.c2, (hn.frozen (a := ⟨g, 2, none⟩) h.glt hq).trans h.fz, own_same h.own (fun k hk => ?_), h.net.stay0 (StayOn.of_near hn) ho (Nat.le_refl _)⟩
  cases hA0 : A with
  | none => rw [hA0] at hk; cases hk
  | some a =>
    rw [hA0] at hk
    have e : a.block = k := by simpa [Value.ownBlock] using hk
    rw [← e]
    exact hn.block a.block (h.ablk a hA0).2 (hA a hA0)
/-- A memory and a mind, beside boxes. -/
structure PM (W : World) (LB : List (Nat × Array Value)) (ga : Nat) (na : NetV) (fa oa ba : Nat) (M : MS) (k : Nat) (g : Nat) (n : NetV) (A : Option Addr) (c : Nat) (L : List FactV) (w : World) : Prop where
  box : BX W LB w
  a : MemAt w ga na fa oa ba M k
  m : MindAt w g n A c L
  ag : ∀ j, (j = g ∨ A.map (·.block) = some j) → j ≠ ga ∧ ¬ Is3 fa oa ba j ∧ W.heap.size ≤ j ∧ ∀ x ∈ LB, x.1 ≠ j
  net : NetOn0 (fun j => ¬ (j = g ∨ A.map (·.block) = some j) ∧ j < w.heap.size) na
  la : ∀ j, Is3 fa oa ba j → W.heap.size ≤ j ∧ ∀ x ∈ LB, x.1 ≠ j
  nn : NetOn0 (fun j => j < W.heap.size) n
section
variable {W w w' : World} {LB : List (Nat × Array Value)} {ga : Nat} {na : NetV} {fa oa ba : Nat} {M M' : MS} {k k' g : Nat} {n : NetV} {A A' : Option Addr} {c c' : Nat} {L L' : List FactV}
theorem PM.stepA (h : PM W LB ga na fa oa ba M k g n A c L w) (hm : MemAt w' ga na fa oa ba M' k') (hn : Near (Is3 fa oa ba) w.heap.size w w') : PM W LB ga na fa oa ba M' k' g n A c L w' :=
  ⟨h.box.beside hn (fun x hx e => (h.la x.1 e).2 x hx rfl) (fun j e => (h.la j e).1), hm,
    h.m.apart hn (fun e => (h.ag g (Or.inl rfl)).2.1 e) (fun a ha e => (h.ag a.block (Or.inr (by rw [ha]; rfl))).2.1 e) (h.nn.weak (fun j e hj => by have := (h.la j hj).1; omega)),
    h.ag, h.net.weak (fun j e => ⟨e.1, Nat.lt_of_lt_of_le e.2 hn.size⟩), h.la, h.nn⟩
theorem PM.stepM (h : PM W LB ga na fa oa ba M k g n A c L w) (hm : MindAt w' g n A' c' L') (hn : Near (fun k => k = g ∨ A.map (·.block) = some k) w.heap.size w w') (hA : ∀ a, A' = some a → A.map (·.block) = some a.block ∨ w.heap.size ≤ a.block) : PM W LB ga na fa oa ba M k g n A' c' L' w' := by
  have hgl := h.m.glt
  have hga : ga < w.heap.size := cell_lt h.a.c0
  have hlt : ∀ j, Is3 fa oa ba j → j < w.heap.size := fun j hj => by
    have h1 := h.a.flt
    have h2 := h.a.olt
    have h3 := h.a.blt
    rcases hj with e | e | e <;> omega
  have hsz := h.box.bl.size
  have key : ∀ j, (j = g ∨ A'.map (·.block) = some j) → (j = g ∨ A.map (·.block) = some j) ∨ w.heap.size ≤ j := fun j hj => by
    rcases hj with e | e
    · exact Or.inl (Or.inl e)
    · cases hA' : A' with
      | none => rw [hA'] at e; cases e
      | some a =>
        rw [hA'] at e
        have e2 : a.block = j := by simpa using e
        rcases hA a hA' with q | q
        · exact Or.inl (Or.inr (by rw [q, e2]))
        · exact Or.inr (by omega)
  refine ⟨h.box.beside hn (fun x hx e => (h.ag x.1 e).2.2.2 x hx rfl) (fun j e => (h.ag j e).2.2.1), h.a.apart hn (fun e => (h.ag ga e).1 rfl) (fun j hj hq => (h.ag j hq).2.1 hj) (h.net.weak (fun j e => e.1)), hm, fun j hj => ?_, h.net.weak (fun j e => ⟨fun hj => ?_, Nat.lt_of_lt_of_le e.2 hn.size⟩), h.la, h.nn⟩
  · rcases key j hj with q | q
    · exact h.ag j q
    · exact ⟨by omega, fun e => by have := hlt j e; omega, by omega, fun x hx e => by have := (h.box.bx x hx).2; omega⟩
  · rcases key j hj with q | q
    · exact e.1 q
    · have := e.2; omega
theorem PM.below (h : PM W LB ga na fa oa ba M k g n A c L w) (hb : Below w.heap.size w w') : PM W LB ga na fa oa ba M k g n A c L w' :=
  ⟨h.box.below hb, h.a.below hb, h.m.below hb, h.ag, h.net.weak (fun j e => ⟨e.1, Nat.lt_of_lt_of_le e.2 hb.size⟩), h.la, h.nn⟩
theorem PM.up (h : PM W LB ga na fa oa ba M k g n A c L w) (hk : k ≤ k') : PM W LB ga na fa oa ba M k' g n A c L w := ⟨h.box, h.a.more hk, h.m, h.ag, h.net, h.la, h.nn⟩
theorem PM.less {x : Nat × Array Value} (h : PM W (x :: LB) ga na fa oa ba M k g n A c L w) : PM W LB ga na fa oa ba M k g n A c L w :=
  ⟨h.box.less, h.a, h.m, fun j hj => ⟨(h.ag j hj).1, (h.ag j hj).2.1, (h.ag j hj).2.2.1, fun y hy => (h.ag j hj).2.2.2 y (List.mem_cons_of_mem _ hy)⟩, h.net, fun j hj => ⟨(h.la j hj).1, fun y hy => (h.la j hj).2 y (List.mem_cons_of_mem _ hy)⟩, h.nn⟩
theorem PM.lt3 (h : PM W LB ga na fa oa ba M k g n A c L w) : ∀ j, Is3 fa oa ba j → j < w.heap.size := fun j hj => by
  have h1 := h.a.flt
  have h2 := h.a.olt
  have h3 := h.a.blt
  rcases hj with e | e | e <;> omega
theorem PM.ltm (h : PM W LB ga na fa oa ba M k g n A c L w) : ∀ j, (j = g ∨ A.map (·.block) = some j) → j < w.heap.size := fun j hj => by
  rcases hj with e | e
  · rw [e]; exact h.m.glt
  · cases hA : A with
    | none => rw [hA] at e; cases e
    | some a =>
      rw [hA] at e
      have e2 : a.block = j := by simpa using e
      have := (h.m.ablk a hA).2
      omega
theorem PM.al (h : PM W LB ga na fa oa ba M k g n A c L w) (vs : Array Value) (t : TypeId) : PM W ((w.heap.size, vs) :: LB) ga na fa oa ba M k g n A c L (w.alloc (.cells vs t)) := by
  have q := h.below ((Below.refl _ _).alloc (Nat.le_refl _) (.cells vs t))
  refine ⟨(h.box.al vs t).done, q.a, q.m, fun j hj => ⟨(h.ag j hj).1, (h.ag j hj).2.1, (h.ag j hj).2.2.1, fun x hx => ?_⟩, q.net, fun j hj => ⟨(h.la j hj).1, fun x hx => ?_⟩, h.nn⟩
  · rcases List.mem_cons.1 hx with rfl | hx
    · have := h.ltm j hj; show w.heap.size ≠ j; omega
    · exact (h.ag j hj).2.2.2 x hx
  · rcases List.mem_cons.1 hx with rfl | hx
    · have := h.lt3 j hj; show w.heap.size ≠ j; omega
    · exact (h.la j hj).2 x hx
/-- On with a copy. -/
theorem PM.copy (h : PM W LB ga na fa oa ba M k g n A c L w) {gc fc oc bc : Nat} (hm : MemAt w' gc na fc oc bc M' k') (hl : w.heap.size ≤ gc ∧ w.heap.size ≤ fc ∧ w.heap.size ≤ oc ∧ w.heap.size ≤ bc) (hb : Below w.heap.size w w') : PM W LB gc na fc oc bc M' k' g n A c L w' := by
  have q := h.below hb
  have hsz := h.box.bl.size
  have i3 : ∀ j, Is3 fc oc bc j → w.heap.size ≤ j := fun j hj => by rcases hj with e | e | e <;> omega
  refine ⟨q.box, hm, q.m, fun j hj => ⟨by have := h.ltm j hj; omega, fun e => by have := h.ltm j hj; have := i3 j e; omega, (h.ag j hj).2.2.1, (h.ag j hj).2.2.2⟩, q.net, fun j hj => ⟨by have := i3 j hj; omega, fun x hx => by have := i3 j hj; have := (h.box.bx x hx).2; omega⟩, h.nn⟩
theorem MindAt.new (hn : NetAt w w.heap.size n) (t : TypeId) : MindAt (w.alloc (.cells #[.slice n.dA n.dn n.dc, .slice n.lA n.ln n.lc, .slice none 0 0] t)) w.heap.size n none 0 [] := by
  have hx := BoxV.new w #[.slice n.dA n.dn n.dc, .slice n.lA n.ln n.lc, .slice none 0 0] t
  exact ⟨hx.1 0 _ rfl, hx.1 1 _ rfl, hx.1 2 _ rfl, hx.2 2, ⟨rfl, Or.inl ⟨rfl, rfl⟩⟩, hn.below ((Below.refl _ _).alloc (Nat.le_refl _) _) (Nat.le_refl _)⟩
theorem PM.new (hx : BX W LB w) (hm : MemAt w ga na fa oa ba M k) (hon : NetOn0 (fun j => j < w.heap.size) na) (hla : ∀ j, Is3 fa oa ba j → W.heap.size ≤ j ∧ ∀ x ∈ LB, x.1 ≠ j) (hn : NetAt w w.heap.size n) (hnn : NetOn0 (fun j => j < W.heap.size) n) (t : TypeId) :
    PM W LB ga na fa oa ba M k w.heap.size n none 0 [] (w.alloc (.cells #[.slice n.dA n.dn n.dc, .slice n.lA n.ln n.lc, .slice none 0 0] t)) := by
  have hb : Below w.heap.size w (w.alloc (.cells #[.slice n.dA n.dn n.dc, .slice n.lA n.ln n.lc, .slice none 0 0] t)) := (Below.refl _ _).alloc (Nat.le_refl _) _
  have hga : ga < w.heap.size := cell_lt hm.c0
  have hsz := hx.bl.size
  have hs := hb.size
  refine ⟨hx.below hb, hm.below hb, MindAt.new hn t, fun j hj => ?_, hon.weak (fun j e => ⟨fun hj => ?_, by omega⟩), hla, hnn⟩
  · rcases hj with rfl | e
    · refine ⟨by omega, fun e => ?_, hsz, fun x hx2 e => by have := (hx.bx x hx2).2; omega⟩
      have h1 := hm.flt
      have h2 := hm.olt
      have h3 := hm.blt
      rcases e with e | e | e <;> omega
    · cases e
  · rcases hj with rfl | e2
    · omega
    · cases e2
end
theorem mGo_len (ls : List LinkV) (L : List FactV) (i : Int) (x : MG) : (mGo ls L i x).2.length ≤ L.length + 1 := by
  unfold mGo
  split
  · exact Nat.le_succ _
  · cases peerF ls (i, x.port) with
    | none => exact Nat.le_succ _
    | some v =>
      cases x.ok
      · exact Nat.le_succ _
      · exact addF_len L x.kn
theorem mindS_len (ds : List Dev) (ls : List LinkV) (L : List FactV) (i y : Int) (p : P4) (ch : Int) : (mindS ds ls L i y p ch).2.length ≤ L.length + 1 := by
  unfold mindS
  split
  · exact Nat.le_succ _
  split
  · exact Nat.le_succ _
  cases ds[i.toNat]? with
  | none => exact Nat.le_succ _
  | some r => exact mGo_len _ _ _ _
theorem forgetM_len (ds : List Dev) (L : List FactV) (i : Int) (p : P4) (q : Int) : (forgetM ds L i p q).2.length ≤ L.length := by
  unfold forgetM
  split
  · exact Nat.le_refl _
  cases ds[i.toNat]? with
  | none => exact Nat.le_refl _
  | some r =>
    simp only
    split
    · exact Nat.le_refl _
    split
    · exact Nat.le_refl _
    · simp only [List.length_append, List.length_take, List.length_drop]; omega
end Go.Proofs.Ythaiffjalgionaa
