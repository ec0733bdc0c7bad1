/- A part of the proof: WorldN, PlayB, WorldD. -/
import Derived.Test.YthaiffjalgionaaWg19
import Derived.Deep.DeepCutAuto
import Derived.Deep.CutBlock

set_option linter.unusedVariables false
set_option linter.unusedSimpArgs false
namespace Go.Proofs.Ythaiffjalgionaa
open Go.RowKit Go.Maps

theorem MapIs.no_cell {α : Type} {P : Program} {kt : TypeId} {key : α → Value} {dom : α → Prop} {w : World} {b : Nat} {M : α → Option Value} (h : MapIs P kt key dom w b M) (a : Addr) (ha : a.block = b) : w.cell? a = none := by
  obtain ⟨D, ⟨es, clock, hh, _⟩, _⟩ := h
  simp [World.cell?, ha, hh]
theorem MemAt.no_cell {w : World} {g : Nat} {n : NetV} {f o b : Nat} {M : MS} {k : Nat} (h : MemAt w g n f o b M k) {j : Nat} (hj : Is3 f o b j) (a : Addr) (ha : a.block = j) : w.cell? a = none := by
  rcases hj with e | e | e
  · exact h.mf.no_cell a (ha.trans e)
  · exact h.mo.no_cell a (ha.trans e)
  · exact h.mb.no_cell a (ha.trans e)
theorem MemAt.g_not3 {w : World} {g : Nat} {n : NetV} {f o b : Nat} {M : MS} {k : Nat} (h : MemAt w g n f o b M k) : ¬ Is3 f o b g := fun e => by
  have := h.no_cell e ⟨g, 0, none⟩ rfl
  rw [h.c0] at this
  cases this
section
variable {w : World} {B n s : Nat} {A : Option Addr} {q : Nat → Prop}
theorem sl_on {α : Type} {cells : α → List Value} {l : List α} (h : SlAt cells s w B A n l) (hc : ∀ r, 0 < (cells r).length) (hq : ∀ j, q j → ∀ a : Addr, a.block = j → w.cell? a = none) : 0 < n → ∀ a, A = some a → ¬ q a.block := fun h0 a ha hj => by
  obtain ⟨b, o, e, _, hg⟩ := h.2 h0
  rw [ha] at e
  cases e
  have hl : 0 < l.length := by rw [h.1]; exact h0
  have := hg 0 _ (List.getElem?_eq_getElem hl) 0 _ (List.getElem?_eq_getElem (hc _))
  rw [hq b hj ⟨b, o + 0 * s + 0, none⟩ rfl] at this
  cases this
theorem ints_on {l : List Int} (h : IntsAt w B A n l) (hq : ∀ j, q j → ∀ a : Addr, a.block = j → w.cell? a = none) : 0 < n → ∀ a, A = some a → ¬ q a.block := fun h0 a ha hj => by
  obtain ⟨b, o, e, _, hg⟩ := h.2.2 h0
  rw [ha] at e
  cases e
  have hl : 0 < l.length := by rw [h.1]; exact h0
  have := hg 0 _ (List.getElem?_eq_getElem hl)
  rw [hq b hj ⟨b, o + 0, none⟩ rfl] at this
  cases this
theorem NetAt.off {m : NetV} (h : NetAt w B m) (hq : ∀ j, q j → ∀ a : Addr, a.block = j → w.cell? a = none) : NetOn0 (fun j => ¬ q j) m where
  d := sl_on h.ds (fun r => by rw [DevV.len]; omega) hq
  l := sl_on h.ls (fun r => by show 0 < 4; omega) hq
  o x hx := ⟨ints_on (h.dok x hx).bs hq, sl_on (h.dok x hx).rs.sl (fun r => by rw [RuleV.len]; omega) hq, sl_on (h.dok x hx).ts (fun r => by show 0 < 3; omega) hq⟩
theorem NetOn0.and {p q : Nat → Prop} {m : NetV} (h : NetOn0 p m) (h2 : NetOn0 q m) : NetOn0 (fun j => p j ∧ q j) m :=
  ⟨fun z a e => ⟨h.d z a e, h2.d z a e⟩, fun z a e => ⟨h.l z a e, h2.l z a e⟩, fun x hx => ⟨fun z a e => ⟨(h.o x hx).b z a e, (h2.o x hx).b z a e⟩, fun z a e => ⟨(h.o x hx).r z a e, (h2.o x hx).r z a e⟩, fun z a e => ⟨(h.o x hx).t z a e, (h2.o x hx).t z a e⟩⟩⟩
end
theorem knownV_none : knownV [] = fun _ => none := by funext a; simp [knownV]
theorem world_made {W0 w : World} {Wn : Nat} (h0 : W0.heap.size ≤ Wn) (h1 : Wn ≤ w.heap.size) {no : NetV} {gm : Nat} {nm : NetV} {f o b : Nat} (hn : NetAt w w.heap.size no) (hm : MemAt w gm nm f o b MS.empty 0) (hs : Wn ≤ gm ∧ Wn ≤ f ∧ Wn ≤ o ∧ Wn ≤ b)
    (ho : NetOn0 (fun j => j < W0.heap.size ∨ (Wn ≤ j ∧ j < w.heap.size ∧ ¬ Is3 f o b j)) no) (ho2 : NetOn0 (fun j => j < W0.heap.size ∨ (Wn ≤ j ∧ j < w.heap.size ∧ ¬ Is3 f o b j)) nm) (t : TypeId) :
    WorldAt W0 ((w.alloc (.map #[] 0)).alloc (.cells #[.slice no.dA no.dn no.dc, .slice no.lA no.ln no.lc, .pointer (some ⟨gm, 0, none⟩), .slice none 0 0, .map (some w.heap.size)] t)) (fun j => Wn ≤ j ∧ j < w.heap.size + 2) (w.heap.size + 1) no gm nm f o b w.heap.size none 0 ⟨MS.empty, []⟩ 0 := by
  have hs1 : (w.alloc (.map #[] 0)).heap.size = w.heap.size + 1 := by simp
  have hb : Below w.heap.size w ((w.alloc (.map #[] 0)).alloc (.cells #[.slice no.dA no.dn no.dc, .slice no.lA no.ln no.lc, .pointer (some ⟨gm, 0, none⟩), .slice none 0 0, .map (some w.heap.size)] t)) :=
    ((Below.refl _ _).alloc (Nat.le_refl _) _).alloc (by simp) _
  have hs2 : ((w.alloc (.map #[] 0)).alloc (.cells #[.slice no.dA no.dn no.dc, .slice no.lA no.ln no.lc, .pointer (some ⟨gm, 0, none⟩), .slice none 0 0, .map (some w.heap.size)] t)).heap.size = w.heap.size + 2 := by simp
  have hx := BoxV.new (w.alloc (.map #[] 0)) #[.slice no.dA no.dn no.dc, .slice no.lA no.ln no.lc, .pointer (some ⟨gm, 0, none⟩), .slice none 0 0, .map (some w.heap.size)] t
  rw [hs1] at hx
  have hgm := cell_lt hm.c0
  simp only at hgm
  have h3 : ∀ j, Is3 f o b j → j < w.heap.size := fun j e => by
    have := hm.flt
    have := hm.olt
    have := hm.blt
    rcases e with e | e | e <;> omega
  have hw : ∀ j, (j < W0.heap.size ∨ (Wn ≤ j ∧ j < w.heap.size ∧ ¬ Is3 f o b j)) → (j < W0.heap.size ∨ ((Wn ≤ j ∧ j < w.heap.size + 2) ∧ ¬ Tn (w.heap.size + 1) w.heap.size f o b none j)) := fun j e => by
    rcases e with e | ⟨e1, e2, e3⟩
    · exact Or.inl e
    · refine Or.inr ⟨⟨e1, by omega⟩, fun t => ?_⟩
      rcases t with t | t | t | t
      · omega
      · omega
      · exact e3 t
      · cases t
  refine ⟨hx.1 0 _ rfl, hx.1 1 _ rfl, hx.1 2 _ rfl, hx.1 3 _ rfl, hx.1 4 _ rfl, hx.2 3, World.ownsRow_nil _ _ _ _, hn.below hb hb.size, hm.below hb, ?_, fun j e => ⟨by omega, by rw [hs2]; exact e.2⟩, ⟨by omega, by omega⟩, ⟨by omega, by omega⟩, ⟨by omega, by omega⟩, fun j e => ⟨(by rcases e with e | e | e <;> omega), (by have := h3 j e; omega)⟩, fun j e => (by cases e), (by omega), fun t => ?_, fun j e => (by have := h3 j e; omega), fun j e => (by cases e), ho.weak hw, ho2.weak hw, Nat.le_refl _⟩
  · show MapIs _ _ _ _ _ _ (knownV [])
    rw [knownV_none]
    exact (MapIs.made w).below (B := w.heap.size + 1) ((Below.refl _ _).alloc (by simp) _) (by omega)
  · rcases t with t | t | t | t
    · omega
    · omega
    · exact hm.g_not3 t
    · cases t

structure NB (W : World) (L : List (Nat × Array Value)) (n : NetV) (D E : Option (Option Addr × Nat)) (Z : List (Nat × Array Value)) (w : World) : Prop where
  box : BX W L w
  d : ∀ x, D = some x → w.ownsRow W.heap.size 97 7 (.slice x.1 n.dn x.2) n.dn (n.ds.flatMap DevV.cells)
  e : ∀ x, E = some x → w.ownsRow W.heap.size 99 4 (.slice x.1 n.ln x.2) n.ln (n.ls.flatMap LinkV.cells)
  z : ∀ x ∈ Z, BoxV w x.1 x.2 ∧ x.1 < w.heap.size ∧ W.heap.size ≤ x.1 ∧ (∀ y, D = some y → y.1.map (·.block) ≠ some x.1) ∧ (∀ y, E = some y → y.1.map (·.block) ≠ some x.1) ∧ ∀ y ∈ L, y.1 ≠ x.1
section
variable {W w w' : World} {L Z : List (Nat × Array Value)} {n : NetV} {D E : Option (Option Addr × Nat)}
theorem NB.start (h : BX W L w) : NB W L n none none [] w := ⟨h, fun x e => (by cases e), fun x e => (by cases e), fun x hx => (by cases hx)⟩
theorem NB.below (h : NB W L n D E Z w) (hb : Below w.heap.size w w') : NB W L n D E Z w' :=
  ⟨h.box.below hb, fun x e => own_below (h.d x e) hb, fun x e => own_below (h.e x e) hb, fun x hx => ⟨(h.z x hx).1.below hb (h.z x hx).2.1, Nat.lt_of_lt_of_le (h.z x hx).2.1 hb.size, (h.z x hx).2.2⟩⟩
theorem NB.dr (h : NB W L n D E Z w) : NB W L n D E Z w.drew := h.below (Below.refl _ _).drew
theorem NB.dlt (h : NB W L n D E Z w) {x : Option Addr × Nat} (e : D = some x) : ∀ j, x.1.map (·.block) = some j → j < w.heap.size := fun j hj => ((h.d x e).lt j (by rw [row_blk]; exact hj)).2
theorem NB.elt (h : NB W L n D E Z w) {x : Option Addr × Nat} (e : E = some x) : ∀ j, x.1.map (·.block) = some j → j < w.heap.size := fun j hj => ((h.e x e).lt j (by rw [row_blk]; exact hj)).2
theorem NB.al (h : NB W L n D E Z w) (vs : Array Value) (t : TypeId) : NB W L n D E ((w.heap.size, vs) :: Z) (w.alloc (.cells vs t)) := by
  have q := h.below ((Below.refl _ _).alloc (Nat.le_refl _) (.cells vs t))
  refine ⟨q.box, q.d, q.e, fun x hx => ?_⟩
  rcases List.mem_cons.1 hx with rfl | hx
  · exact ⟨BoxV.new _ _ _, by simp, h.box.bl.size, fun y e e2 => Nat.lt_irrefl _ (h.dlt e _ e2), fun y e e2 => Nat.lt_irrefl _ (h.elt e _ e2), fun y hy => Nat.ne_of_lt (h.box.bx y hy).2⟩
  · exact q.z x hx
theorem NB.dev {x : Option Addr × Nat} (h : NB W L n none E Z w) (hb : Below w.heap.size w w') (ho : w'.ownsRow w.heap.size 97 7 (.slice x.1 n.dn x.2) n.dn (n.ds.flatMap DevV.cells)) : NB W L n (some x) E Z w' := by
  have q := h.below hb
  refine ⟨q.box, fun y e => ?_, q.e, fun z hz => ⟨(q.z z hz).1, (q.z z hz).2.1, (q.z z hz).2.2.1, fun y e e2 => ?_, (q.z z hz).2.2.2.2⟩⟩
  · cases e; exact ho.mono h.box.bl.size
  · cases e
    have := (ho.lt _ (by rw [row_blk]; exact e2)).1
    have := (h.z z hz).2.1
    omega
theorem NB.link {x : Option Addr × Nat} (h : NB W L n D none Z w) (hb : Below w.heap.size w w') (ho : w'.ownsRow w.heap.size 99 4 (.slice x.1 n.ln x.2) n.ln (n.ls.flatMap LinkV.cells)) : NB W L n D (some x) Z w' := by
  have q := h.below hb
  refine ⟨q.box, q.d, fun y e => ?_, fun z hz => ⟨(q.z z hz).1, (q.z z hz).2.1, (q.z z hz).2.2.1, (q.z z hz).2.2.2.1, fun y e e2 => ?_, (q.z z hz).2.2.2.2.2⟩⟩
  · cases e; exact ho.mono h.box.bl.size
  · cases e
    have := (ho.lt _ (by rw [row_blk]; exact e2)).1
    have := (h.z z hz).2.1
    omega
theorem NB.set {N : Nat} {vs : Array Value} (h : NB W L n D E ((N, vs) :: Z) w) (j : Nat) (v : Value) : NB W L n D E [(N, vs.setIfInBounds j v)] (w.setCell ⟨N, j, none⟩ v) := by
  obtain ⟨h1, h2, h3, h4, h5, h6⟩ := h.z (N, vs) List.mem_cons_self
  refine ⟨⟨h.box.bl.setCell h3 v, fun x hx => ⟨(h.box.bx x hx).1.far _ _ (fun e => h6 x hx e.symm), by simpa [World.setCell] using (h.box.bx x hx).2⟩⟩, fun x e => own_setCell (h.d x e) (fun k hk e2 => h4 x e (by rw [row_blk] at hk; rw [hk]; exact congrArg some e2)) _, fun x e => own_setCell (h.e x e) (fun k hk e2 => h5 x e (by rw [row_blk] at hk; rw [hk]; exact congrArg some e2)) _, fun x hx => ?_⟩
  obtain rfl := List.mem_singleton.1 hx
  exact ⟨h1.set j v, by simpa [World.setCell] using h2, h3, h4, h5, h6⟩
theorem NB.leaf {N : Nat} {vs : Array Value} {a c : Option Addr} {b d : Nat} (h : NB W L n (some (a, b)) (some (c, d)) ((N, vs) :: Z) w) : ∃ N' w', N = N' ∧ w = w' ∧ NB W L n (some (a, b)) (some (c, d)) [(N', vs)] w' :=
  ⟨_, _, rfl, rfl, h.box, h.d, h.e, fun x hx => by obtain rfl := List.mem_singleton.1 hx; exact h.z _ List.mem_cons_self⟩
end
theorem cut_region5 {P : Program} {c : Code} {Q : Exit → Act → World → Prop} {a : Act} {w : World} (A : Nat → Option Addr → Nat → Option Addr → Nat → Act) (C : Nat → Option Addr → Nat → Option Addr → Nat → World → Prop) (h1 : Shut (∀ N x1 x2 x3 x4 w', C N x1 x2 x3 x4 w' → Q .normal (A N x1 x2 x3 x4) w') → Code.wp P c Q a w) (h2 : ∀ N x1 x2 x3 x4 w', C N x1 x2 x3 x4 w' → Q .normal (A N x1 x2 x3 x4) w') : Code.wp P c Q a w := h1 h2
set_option maxRecDepth 100000 in
set_option maxHeartbeats 4000000 in
theorem worldNew_bad (n : NetV) (W : World) (hn : NetAt W W.heap.size n) (hE : netE n.devs n.ls ≠ 0) :
    Calls Try.prog 30 #[n.val] W fun e W' => e = .returned (.tuple #[.pointer none, .int .i64 (netE n.devs n.ls)]) ∧ Below W.heap.size W W' := by
  have HNW := hide (fun (w' : World) (hb : Below W.heap.size W w') => stepNew_bad n w' (hn.below hb hb.size) hE)
  obtain ⟨E, hEE⟩ : ∃ E, netE n.devs n.ls = E := ⟨_, rfl⟩
  rw [hEE] at HNW hE ⊢
  clear hEE hn
  have e1 : (E == 0) = false := by simpa using hE
  have e2 : (E != 0) = true := by simpa using hE
  clear hE
  show Calls _ _ #[.agg #[.slice n.dA n.dn n.dc, .slice n.lA n.ln n.lc]] W _
  go_enter Try.func30, Try.ntmps30
  go_wp2_with fail
  have HB1 := hide (show Below W.heap.size W (W.alloc (.cells #[.slice n.dA n.dn n.dc, .slice n.lA n.ln n.lc] 25)) from (Below.refl _ _).alloc (Nat.le_refl _) _)
  generalize World.alloc W _ = W1 at *
  refine (HNW.out W1 HB1.out).mono ?_
  rintro e w2 ⟨rfl, hb⟩
  have HB2 := hide (HB1.out.trans (hb.mono HB1.out.size))
  clear hb HNW
  go_wp2
  go_ret2
  exact ⟨rfl, HB2.out⟩
set_option maxRecDepth 100000 in
set_option maxHeartbeats 8000000 in
theorem worldNew_ok (n : NetV) (W0 W : World) (h0 : W0.heap.size ≤ W.heap.size) (hn : NetAt W W.heap.size n) (hnn : NetOn0 (fun j => j < W0.heap.size) n) (hE : netE n.devs n.ls = 0) :
    Calls Try.prog 30 #[n.val] W fun e W' => ∃ g F no gm nm f o b km, e = .returned (.tuple #[.pointer (some ⟨g, 0, none⟩), .int .i64 0]) ∧ WorldAt W0 W' F g no gm nm f o b km none 0 ⟨MS.empty, []⟩ 0 ∧ (no.devs = n.devs ∧ no.ls = n.ls ∧ nm.devs = n.devs ∧ nm.ls = n.ls) ∧ Below W.heap.size W W' ∧ ∀ j, F j → W.heap.size ≤ j := by
  have hmm := @run_makeMap Try.prog
  have hdl := hn.dlen
  have hll := hn.llen
  have hdn : n.dn ≤ 10 := by rw [← devs_len hn]; exact (netE_ok hE).dl
  have hln : n.ln ≤ 15 := by have h1 := (netE_ok hE).ll; rw [hn.llen] at h1; exact h1
  have HNA := hide (fun (w' : World) (hb : Below W.heap.size W w') => show NetAt w' w'.heap.size n from hn.below hb hb.size)
  have HNW := hide (fun (w' : World) (hb : Below W.heap.size W w') => stepNew_ok2 n w' (hn.below hb hb.size) hE)
  have HNN := hide hnn
  have HDL := hide hdl
  have HLL := hide hll
  clear hn hE hnn hdl hll
  show Calls _ _ #[.agg #[.slice n.dA n.dn n.dc, .slice n.lA n.ln n.lc]] W _
  go_enter Try.func30, Try.ntmps30
  go_wp2_with fail
  have HX1 := hide (((BX.none W).al #[.slice n.dA n.dn n.dc, .slice n.lA n.ln n.lc] 25).done)
  generalize World.alloc W _ = W1 at *
  refine (HNW.out W1 HX1.out.bl).mono ?_
  clear HNW
  rintro e w2 ⟨gm, f, o, b, nm, rfl, hM, hd, hl, hs, hb, hon⟩
  have HX2 := hide (HX1.out.below hb)
  have HM := hide hM
  have HDD := hide (And.intro hd hl)
  have HS := hide (And.intro HX1.out.bl.size hs)
  have HON := hide hon
  clear hM hd hl hs hb hon HX1
  obtain ⟨c0, c1⟩ : w2.cell? ⟨W.heap.size, 0, none⟩ = some (.slice n.dA n.dn n.dc) ∧ w2.cell? ⟨W.heap.size, 1, none⟩ = some (.slice n.lA n.ln n.lc) := ⟨(HX2.out.get 0 rfl).1 0 _ rfl, (HX2.out.get 0 rfl).1 1 _ rfl⟩
  have n1 := Nat.ne_of_lt (HX2.out.bx _ (List.mem_of_getElem? (i := 0) rfl)).2
  have n2 := Ne.symm n1
  go_wp2_with fail
  have HXX := hide HX2.out
  have HX0 := hide (show BX w2 [] w2 from BX.none w2)
  have HC0 := hide (And.intro c0 c1)
  have HCD := hide (fun (w' : World) (hb : Below w2.heap.size w2 w') => cloneDev_walk n.ds n.dA n.dn n.dc w' (by omega) (HNA.out _ (HX2.out.bl.trans (hb.mono HX2.out.bl.size))).ds)
  have HCL := hide (fun (w' : World) (hb : Below w2.heap.size w2 w') => cloneLink_walk n.ls n.lA n.ln n.lc w' (by omega) (HNA.out _ (HX2.out.bl.trans (hb.mono HX2.out.bl.size))).ls)
  have HG := hide (NB.start (n := n) (show BX w2 [(W.heap.size, #[.slice n.dA n.dn n.dc, .slice n.lA n.ln n.lc])] w2 from ⟨Below.refl _ _, HX2.out.bx⟩))
  -- R4
  apply cut_region5 (C := fun N dA dc lA lc w' => NB w2 [(W.heap.size, #[.slice n.dA n.dn n.dc, .slice n.lA n.ln n.lc])] n (some (dA, dc)) (some (lA, lc)) [(N, #[.slice dA n.dn dc, .slice lA n.ln lc])] w')
  · intro HK
    go_region_held3 (fun w' => w'.cell? ⟨W.heap.size, 0, none⟩ = some (.slice n.dA n.dn n.dc) ∧ w'.cell? ⟨W.heap.size, 1, none⟩ = some (.slice n.lA n.ln n.lc)) (go_keep) (first | (go_at_call 106; (first | refine (HCD.out _ (HG.out.dr.box.bl)).mono ?_ | refine (HCD.out _ (HG.out.al _ _).dr.box.bl).mono ?_ | refine (HCD.out _ HG.out.box.bl).mono ?_ | refine (HCD.out _ (HG.out.al _ _).box.bl).mono ?_); rintro e wp ⟨v, rfl, hown, hb⟩; obtain ⟨dA, dc, rfl, _, _, _⟩ := SlAt.of_own DevV.len hown HDL.out; (first | have HG := hide (HG.out.dr.dev (x := (dA, dc)) hb hown) | have HG := hide ((HG.out.al _ _).dr.dev (x := (dA, dc)) hb hown) | have HG := hide (HG.out.dev (x := (dA, dc)) hb hown) | have HG := hide ((HG.out.al _ _).dev (x := (dA, dc)) hb hown)); obtain ⟨c0, c1⟩ : _ ∧ _ := ⟨(HG.out.box.get 0 rfl).1 0 _ rfl, (HG.out.box.get 0 rfl).1 1 _ rfl⟩; have n1 := Nat.ne_of_lt (HG.out.box.bx _ (List.mem_of_getElem? (i := 0) rfl)).2; have n2 := Ne.symm n1; (try obtain ⟨z0, z1, f0, f1⟩ : _ ∧ _ ∧ _ ∧ _ := ⟨(HG.out.z _ List.mem_cons_self).1.1 0 _ rfl, (HG.out.z _ List.mem_cons_self).1.1 1 _ rfl, (HG.out.z _ List.mem_cons_self).1.2 0, (HG.out.z _ List.mem_cons_self).1.2 1⟩)) | (go_at_call 107; (first | refine (HCL.out _ (HG.out.dr.box.bl)).mono ?_ | refine (HCL.out _ (HG.out.al _ _).dr.box.bl).mono ?_ | refine (HCL.out _ HG.out.box.bl).mono ?_ | refine (HCL.out _ (HG.out.al _ _).box.bl).mono ?_); rintro e wp ⟨v, rfl, hown, hb⟩; obtain ⟨lA, lc, rfl, _, _, _⟩ := SlAt.of_own LinkV.len hown HLL.out; (first | have HG := hide (HG.out.dr.link (x := (lA, lc)) hb hown) | have HG := hide ((HG.out.al _ _).dr.link (x := (lA, lc)) hb hown) | have HG := hide (HG.out.link (x := (lA, lc)) hb hown) | have HG := hide ((HG.out.al _ _).link (x := (lA, lc)) hb hown)); obtain ⟨c0, c1⟩ : _ ∧ _ := ⟨(HG.out.box.get 0 rfl).1 0 _ rfl, (HG.out.box.get 0 rfl).1 1 _ rfl⟩; have n1 := Nat.ne_of_lt (HG.out.box.bx _ (List.mem_of_getElem? (i := 0) rfl)).2; have n2 := Ne.symm n1; (try obtain ⟨z0, z1, f0, f1⟩ : _ ∧ _ ∧ _ ∧ _ := ⟨(HG.out.z _ List.mem_cons_self).1.1 0 _ rfl, (HG.out.z _ List.mem_cons_self).1.1 1 _ rfl, (HG.out.z _ List.mem_cons_self).1.2 0, (HG.out.z _ List.mem_cons_self).1.2 1⟩)))
    all_goals (first | (obtain ⟨N', w', e1, e2, q⟩ := (HG.out.al #[.slice dA n.dn dc, .slice lA n.ln lc] 25).leaf; rw [e2, e1]; exact HK.out _ _ _ _ _ _ q) | (obtain ⟨N', w', e1, e2, q⟩ := ((HG.out.set 0 (.slice dA n.dn dc)).set 1 (.slice lA n.ln lc)).leaf; rw [e2, e1]; exact HK.out _ _ _ _ _ _ q))
  clear HG HCD HCL c0 c1 n1 n2 HX0 HC0
  intro N dA dc lA lc w4 hNB
  have HNB := hide hNB
  obtain ⟨z0, z1⟩ : w4.cell? ⟨N, 0, none⟩ = some (.slice dA n.dn dc) ∧ w4.cell? ⟨N, 1, none⟩ = some (.slice lA n.ln lc) := ⟨(hNB.z _ List.mem_cons_self).1.1 0 _ rfl, (hNB.z _ List.mem_cons_self).1.1 1 _ rfl⟩
  clear hNB
  have HB4 := hide (HX2.out.bl.trans (HNB.out.box.bl.mono HX2.out.bl.size))
  have HWM := hide (show WorldAt W0 ((w4.alloc (.map #[] 0)).alloc (.cells #[.slice dA n.dn dc, .slice lA n.ln lc, .pointer (some ⟨gm, 0, none⟩), .slice none 0 0, .map (some w4.heap.size)] 186)) (fun j => W.heap.size ≤ j ∧ j < w4.heap.size + 2) (w4.heap.size + 1) ⟨dA, n.dn, dc, n.ds, lA, n.ln, lc, n.ls⟩ gm nm f o b w4.heap.size none 0 ⟨MS.empty, []⟩ 0 from by
    have hs4 := HNB.out.box.bl.size
    have hs2 := HX2.out.bl.size
    have hd0 := HNB.out.d _ rfl
    have he0 := HNB.out.e _ rfl
    obtain ⟨_, _, e1, hcd, hsd, had⟩ := SlAt.of_own DevV.len hd0 HDL.out
    cases e1
    obtain ⟨_, _, e1, hcl, hsl, hal⟩ := SlAt.of_own LinkV.len he0 HLL.out
    cases e1
    have hnb := HNA.out _ HB4.out
    have hm4 := HM.out.below HNB.out.box.bl
    have h3 : ∀ j, Is3 f o b j → j < w2.heap.size := fun j e => by
      have := HM.out.flt
      have := HM.out.olt
      have := HM.out.blt
      rcases e with e | e | e <;> omega
    have hsz := HS.out
    have hno : NetAt w4 w4.heap.size ⟨dA, n.dn, dc, n.ds, lA, n.ln, lc, n.ls⟩ := ⟨hsd, hnb.dok, hsl, hnb.lok, ⟨hcd, own_cap hd0⟩, ⟨hcl, own_cap he0⟩⟩
    refine world_made (by omega) (by omega) hno hm4 ⟨by omega, by omega, by omega, by omega⟩ ⟨fun z a e => ?_, fun z a e => ?_, fun x hx => ?_⟩ ?_ _
    · have h1 := had a e
      have h2 := (hd0.lt a.block (by rw [row_blk]; show dA.map _ = _; rw [show dA = some a from e]; rfl)).2
      exact Or.inr ⟨by omega, h2, fun e3 => by have := h3 _ e3; omega⟩
    · have h1 := hal a e
      have h2 := (he0.lt a.block (by rw [row_blk]; show lA.map _ = _; rw [show lA = some a from e]; rfl)).2
      exact Or.inr ⟨by omega, h2, fun e3 => by have := h3 _ e3; omega⟩
    · exact (HNN.out.o x hx).weak (fun j e => Or.inl e)
    · have q1 := (HM.out.net.on HON.out)
      have q2 := HM.out.net.off (q := Is3 f o b) (fun j hj a ha => HM.out.no_cell hj a ha)
      exact (q1.and q2).weak (fun j e => Or.inr ⟨by omega, by omega, e.2⟩))
  have HBB := hide (show Below W.heap.size W ((w4.alloc (.map #[] 0)).alloc (.cells #[.slice dA n.dn dc, .slice lA n.ln lc, .pointer (some ⟨gm, 0, none⟩), .slice none 0 0, .map (some w4.heap.size)] 186)) from (HB4.out.alloc HB4.out.size _).alloc (by have := HB4.out.size; simp; omega) _)
  go_wp2
  go_ret2
  exact ⟨_, _, _, _, _, _, _, _, _, rfl, HWM.out, ⟨rfl, rfl, HDD.out.1, HDD.out.2⟩, HBB.out, fun j e => e.1⟩
end Go.Proofs.Ythaiffjalgionaa

set_option linter.unusedVariables false
set_option linter.unusedSimpArgs false
namespace Go.Proofs.Ythaiffjalgionaa
open Go.RowKit

theorem hand_as (g : Nat) (n : NetV) (f o b : Nat) (M : MS) (k : Nat) (x : ActV) (S : HandS) {ds : List Dev} {ls : List LinkV} (hd : n.devs = ds) (hl : n.ls = ls) (hE : netE ds ls = 0) (hx : x.ok) (hk : k < 1000000) (hS : handS ds ls M x.dev x.port x.p x.ch = S) (W : World) (hM : MemAt W g n f o b M k) :
    Calls Try.prog 13 #[.pointer (some ⟨g, 0, none⟩), .agg #[.int .i64 x.dev, .int .i64 x.port], .agg #[.int .i64 x.p.src, .int .i64 x.p.dst, .int .i64 x.p.sport, .int .i64 x.p.dport], .int .i64 x.ch] W fun e W' =>
      e = .returned S.val ∧ MemAt W' g n f o b (M.learn S.kn) (k + 1) ∧ Near (Is3 f o b) W.heap.size W W' := by
  subst hd hl hS
  exact hand_walk g n f o b M k x.dev x.port x.p x.ch W hM hE hx.d hx.y hx.p hx.c hk
theorem forget_as (g : Nat) (n : NetV) (f o b : Nat) (M : MS) (k : Nat) (x : ActV) (R : Int) (M' : MS) {ds : List Dev} (hd : n.devs = ds) (hn : n.dn ≤ 10) (hx : x.ok) (h1 : (forgetS ds M x.dev x.p x.ch).1 = R) (h2 : (forgetS ds M x.dev x.p x.ch).2 = M') (W : World) (hM : MemAt W g n f o b M k) :
    Calls Try.prog 15 #[.pointer (some ⟨g, 0, none⟩), .int .i64 x.dev, .agg #[.int .i64 x.p.src, .int .i64 x.p.dst, .int .i64 x.p.sport, .int .i64 x.p.dport], .int .i64 x.ch] W fun e W' =>
      e = .returned (.int .i64 R) ∧ MemAt W' g n f o b M' k ∧ Near (Is3 f o b) W.heap.size W W' := by
  subst hd h1 h2
  exact forget_walk g n f o b M k x.dev x.p x.ch W hM hn hx.d hx.p hx.c
theorem act_cells {w : World} {B b o n k : Nat} {l : List ActV} {x : ActV} (h : SlAt ActV.cells 8 w B (some ⟨b, o, none⟩) n l) (hx : l[k]? = some x) : w.cell? ⟨b, o + k * 8, none⟩ = some (.int .i64 x.kind) ∧ w.cell? ⟨b, o + k * 8 + 1, none⟩ = some (.int .i64 x.dev) ∧ w.cell? ⟨b, o + k * 8 + 2, none⟩ = some (.int .i64 x.port) ∧ w.cell? ⟨b, o + k * 8 + 3, none⟩ = some (.int .i64 x.p.src) ∧ w.cell? ⟨b, o + k * 8 + 4, none⟩ = some (.int .i64 x.p.dst) ∧ w.cell? ⟨b, o + k * 8 + 5, none⟩ = some (.int .i64 x.p.sport) ∧ w.cell? ⟨b, o + k * 8 + 6, none⟩ = some (.int .i64 x.p.dport) ∧ w.cell? ⟨b, o + k * 8 + 7, none⟩ = some (.int .i64 x.ch) := by
  obtain ⟨_, hg⟩ := h.get hx
  exact ⟨hg 0 _ rfl, hg 1 _ rfl, hg 2 _ rfl, hg 3 _ rfl, hg 4 _ rfl, hg 5 _ rfl, hg 6 _ rfl, hg 7 _ rfl⟩
end Go.Proofs.Ythaiffjalgionaa

set_option linter.unusedVariables false
set_option linter.unusedSimpArgs false
namespace Go.Proofs.Ythaiffjalgionaa
open Go.RowKit Go.Maps

theorem right_ok {p : P4} (h : rightB p = true) : p.ok := by
  obtain ⟨h1, h2, h3, h4⟩ := right_parts h
  simp only [inR, Bool.and_eq_true, decide_eq_true_eq] at h1 h2 h3 h4
  exact ⟨by unfold i64ok; omega, by unfold i64ok; omega, by unfold i64ok; omega, by unfold i64ok; omega⟩
theorem ports_le (k : Int) : portsF k ≤ 4 := by
  unfold portsF
  repeat' split
  all_goals omega
theorem place_ok {ds : List Dev} {x : Pl} (hd : ds.length ≤ 10) (h : placeB ds x = true) : i64ok x.1 ∧ i64ok x.2 := by
  have q := placeB_iff.1 h
  have := ports_le (kindAt ds x.1)
  exact ⟨by unfold i64ok; omega, by unfold i64ok; omega⟩
theorem boxes2 {W W2 : World} {a1 a2 : Array Value} {t1 t2 : TypeId} (hG : (W.alloc (.cells a1 t1)).alloc (.cells a2 t2) = W2) : BX W [(W.heap.size + 1, a2), (W.heap.size, a1)] W2 ∧ W2.heap.size = W.heap.size + 2 := by
  have e := boxesV (B := W2.heap.size) [(a1, t1), (a2, t2)] W (W' := W2) (by rw [← hG]; exact Below.refl _ _)
  have hs : W2.heap.size = W.heap.size + 2 := by rw [← hG]; simp
  refine ⟨⟨e.2 (by omega), fun x hx => ?_⟩, hs⟩
  rcases List.mem_cons.1 hx with rfl | hx
  · exact ⟨e.1 1 _ _ rfl (by omega), by simp; omega⟩
  · obtain rfl := List.mem_singleton.1 hx
    exact ⟨e.1 0 _ _ rfl (by omega), by simp; omega⟩
theorem boxes1 {W W2 : World} {a1 : Array Value} {t1 : TypeId} (hG : W.alloc (.cells a1 t1) = W2) : BX W [(W.heap.size, a1)] W2 ∧ W2.heap.size = W.heap.size + 1 := by
  have e := boxesV (B := W2.heap.size) [(a1, t1)] W (W' := W2) (by rw [← hG]; exact Below.refl _ _)
  have hs : W2.heap.size = W.heap.size + 1 := by rw [← hG]; simp
  refine ⟨⟨e.2 (by omega), fun x hx => ?_⟩, hs⟩
  obtain rfl := List.mem_singleton.1 hx
  exact ⟨e.1 0 _ _ rfl (by omega), by simp; omega⟩
theorem below_alloc (w : World) (o : Obj) : Below w.heap.size w (w.alloc o) := (Below.refl _ _).alloc (Nat.le_refl _) o
set_option maxRecDepth 100000 in
set_option maxHeartbeats 4000000 in
theorem worldHas_walk {W0 W : World} {F : Nat → Prop} {g : Nat} {no : NetV} {gm : Nat} {nm : NetV} {f o b km : Nat} {A : Option Addr} {c : Nat} {Z : WS} {k : Nat} (h : WorldAt W0 W F g no gm nm f o b km A c Z k) (y : ArrV) (hy : y.ok) :
    Calls Try.prog 34 #[.pointer (some ⟨g, 0, none⟩), .agg #[.int .i64 y.d, .int .i64 y.y], .agg #[.int .i64 y.p.src, .int .i64 y.p.dst, .int .i64 y.p.sport, .int .i64 y.p.dport]] W fun e W' => e = .returned (.bool (decide (y ∈ Z.S))) ∧ Below W.heap.size W W' := by
  have HW := hide h
  clear h
  obtain ⟨B, hB⟩ : ∃ B, decide (y ∈ Z.S) = B := ⟨_, rfl⟩
  rw [hB]
  go_enter Try.func34, Try.ntmps34
  go_wp2_with fail
  generalize hG : World.alloc (World.alloc W _) _ = W2
  have HX := hide (boxes2 hG).1
  clear hG
  refine wp_region_abs (by kernel_rfl) (by kernel_rfl) ?_
  intro T hT gt hg1 hgi
  have HGT := hide hg1
  have HGI := hide hgi
  clear hg1 hgi
  have k4 : ∀ t, (gt t).cell? ⟨g, 4, none⟩ = some (.map (some km)) := fun t => (HW.out.below (HX.out.below (HGT.out t)).bl).c4
  have x0 : ∀ t, (gt t).cell? ⟨W.heap.size, 0, none⟩ = some (.int .i64 y.d) := fun t => ((HX.out.below (HGT.out t)).get 1 rfl).1 0 _ rfl
  have x1 : ∀ t, (gt t).cell? ⟨W.heap.size, 1, none⟩ = some (.int .i64 y.y) := fun t => ((HX.out.below (HGT.out t)).get 1 rfl).1 1 _ rfl
  have z0 : ∀ t, (gt t).cell? ⟨W.heap.size + 1, 0, none⟩ = some (.int .i64 y.p.src) := fun t => ((HX.out.below (HGT.out t)).get 0 rfl).1 0 _ rfl
  have z1 : ∀ t, (gt t).cell? ⟨W.heap.size + 1, 1, none⟩ = some (.int .i64 y.p.dst) := fun t => ((HX.out.below (HGT.out t)).get 0 rfl).1 1 _ rfl
  have z2 : ∀ t, (gt t).cell? ⟨W.heap.size + 1, 2, none⟩ = some (.int .i64 y.p.sport) := fun t => ((HX.out.below (HGT.out t)).get 0 rfl).1 2 _ rfl
  have z3 : ∀ t, (gt t).cell? ⟨W.heap.size + 1, 3, none⟩ = some (.int .i64 y.p.dport) := fun t => ((HX.out.below (HGT.out t)).get 0 rfl).1 3 _ rfl
  have hlk : ∀ t, (Instr.lookup 184 (.map (some km)) (.agg #[.int .i64 y.d, .int .i64 y.y, .int .i64 y.p.src, .int .i64 y.p.dst, .int .i64 y.p.sport, .int .i64 y.p.dport]) false).run Try.prog (gt t) = .ok (.bool B) (gt t) := fun t => by rw [← hB]; exact (HW.out.below (HX.out.below (HGT.out t)).bl).look y hy
  repeat (go_big_quiet_step (fail))
  refine wpQuiet_nil ?_
  intro _ hw'
  obtain ⟨t, rfl⟩ := hw'
  have HB := hide (HX.out.below (HGT.out t)).bl
  generalize gt t = W3 at *
  clear k4 x0 x1 z0 z1 z2 z3 hlk HGT HGI
  go_wp2
  go_ret
  exact ⟨rfl, HB.out⟩
set_option maxRecDepth 100000 in
set_option maxHeartbeats 4000000 in
theorem seen_walk {W0 W : World} {F : Nat → Prop} {g : Nat} {no : NetV} {gm : Nat} {nm : NetV} {f o b km : Nat} {A : Option Addr} {c : Nat} {Z : WS} {k : Nat} (h : WorldAt W0 W F g no gm nm f o b km A c Z k) (hk : k < 100000) :
    Calls Try.prog 31 #[.pointer (some ⟨g, 0, none⟩)] W fun e W' => ∃ A' c', e = .returned (.slice A' Z.S.length c') ∧ Z.S.length ≤ c' ∧ W'.ownsRow W.heap.size 43 6 (.slice A' Z.S.length c') Z.S.length (Z.S.flatMap ArrV.cells) ∧ Below W.heap.size W W' := by
  have HW := hide h
  have hlk := h.lk
  clear h
  have HCL := hide (cloneArr_walk Z.S A Z.S.length c W (by omega) (own_sl ArrV.len HW.out.own rfl))
  have c3 := HW.out.c3
  go_enter Try.func31, Try.ntmps31
  go_wp2_with fail
  refine HCL.out.mono ?_
  rintro e W2 ⟨v, rfl, hown, hb⟩
  have HO := hide hown
  have HB := hide hb
  clear hown hb c3 HCL
  obtain ⟨A', c', e1, hcc, _, _⟩ := SlAt.of_own ArrV.len HO.out rfl
  go_wp2
  go_ret
  subst e1
  exact ⟨A', c', rfl, hcc, HO.out, HB.out⟩
set_option maxRecDepth 100000 in
set_option maxHeartbeats 8000000 in
theorem inject_walk {W0 W : World} {F : Nat → Prop} {g : Nat} {no : NetV} {gm : Nat} {nm : NetV} {f o b km : Nat} {A : Option Addr} {c : Nat} {Z : WS} {k : Nat} (h : WorldAt W0 W F g no gm nm f o b km A c Z k) {ds : List Dev} {ls : List LinkV} (hds : no.devs = ds) (hls : no.ls = ls) (hE : netE ds ls = 0) (i : Int) (p : P4) (hi : i64ok i) (hp : p.ok) (hl : Z.S.length + 1 ≤ k) (hk : k < 1000000) :
    Calls Try.prog 109 #[.pointer (some ⟨g, 0, none⟩), .int .i64 i, .agg #[.int .i64 p.src, .int .i64 p.dst, .int .i64 p.sport, .int .i64 p.dport]] W fun e W' => e = .returned (.int .i64 (injS ds ls Z.S i p).1) ∧ ∃ A' c' F', WorldAt W0 W' F' g no gm nm f o b km A' c' ⟨Z.M, (injS ds ls Z.S i p).2⟩ k ∧ Near F W.heap.size W W' ∧ ∀ j, F' j → F j ∨ W.heap.size ≤ j := by
  have HW := hide h
  have hdl := devs_len h.net
  have hdn : no.dn ≤ 10 := by rw [← hdl, hds]; exact (netE_ok hE).dl
  have hln : no.ln ≤ 9223372036854775807 := by have h1 := (netE_ok hE).ll; have := h.net.llen; rw [← hls] at h1; omega
  have hgl := (h.fo g h.fg).2
  clear h
  obtain ⟨R, hR⟩ : ∃ R, injS ds ls Z.S i p = R := ⟨_, rfl⟩
  rw [hR]
  have HR := hide hR
  clear hR
  have HD := hide hds
  have HL := hide hls
  have HE := hide hE
  have HDL := hide hdl
  clear hds hls hE hdl
  have hc0 := fun (o' : Obj) => (HW.out.below (below_alloc W o')).c0
  by_cases h1 : i < 0
  case pos =>
    have HS := hide (show R = (4, Z.S) from by rw [← HR.out]; exact injS_out (by simp only [inR, Bool.and_eq_false_iff, decide_eq_false_iff_not]; omega))
    go_enter Try.func109, Try.ntmps109
    go_wp2
    go_ret
    exact ⟨ret_i64 (by rw [HS.out]), A, c, F, by rw [HS.out]; exact HW.out.below (below_alloc W _), Near.of_below (below_alloc W _), fun j e => Or.inl e⟩
  by_cases h2 : (no.dn : Int) ≤ i
  case pos =>
    have HS := hide (show R = (4, Z.S) from by rw [← HR.out]; exact injS_out (by simp only [inR, Bool.and_eq_false_iff, decide_eq_false_iff_not]; rw [← HD.out, HDL.out]; omega))
    go_enter Try.func109, Try.ntmps109
    go_wp2
    go_ret
    exact ⟨ret_i64 (by rw [HS.out]), A, c, F, by rw [HS.out]; exact HW.out.below (below_alloc W _), Near.of_below (below_alloc W _), fun j e => Or.inl e⟩
  have hn := HW.out.net
  obtain ⟨j, rfl⟩ : ∃ j : Nat, i = (j : Int) := ⟨i.toNat, by omega⟩
  have hjl : j < no.ds.length := by have := hn.dlen; omega
  obtain ⟨r, hr⟩ : ∃ r, no.ds[j]? = some r := ⟨_, List.getElem?_eq_getElem hjl⟩
  obtain ⟨db, od, hdA, hdb0, hdb1⟩ := hn.ds.2 (by omega)
  clear hdb0 hdb1 hn
  have hdr : ds[(j : Int).toNat]? = some r.dev := by rw [← HD.out, NetV.devs, List.getElem?_map, Int.toNat_natCast, hr]; rfl
  have HI := hide (show injS ds ls Z.S (j : Int) p = injR ls Z.S (j : Int) p r.dev from injS_some (by simp only [inR, Bool.and_eq_true, decide_eq_true_eq]; rw [← HD.out, HDL.out]; omega) hdr)
  rw [HR.out] at HI
  clear hdr HR
  have HDO := hide (fun (w' : World) (hb : Below W.heap.size W w') => dev_get (b := db) (o := od) (w := w') (r := r) (k := j) (by have q := (HW.out.below hb).net.ds; rw [hdA] at q; exact q) hr)
  have k0 := fun (o' : Obj) => (by have q := (HW.out.below (below_alloc W o')).c0; rw [hdA] at q; exact q : (W.alloc o').cell? ⟨g, 0, none⟩ = some (.slice (some ⟨db, od, none⟩) no.dn no.dc))
  have d0 := fun (o' : Obj) => (HDO.out _ (below_alloc W o')).2.1
  have d1 := fun (o' : Obj) => (HDO.out _ (below_alloc W o')).2.2.1
  have d2 := fun (o' : Obj) => (HDO.out _ (below_alloc W o')).2.2.2.1
  have d3 := fun (o' : Obj) => (HDO.out _ (below_alloc W o')).2.2.2.2.1
  have d4 := fun (o' : Obj) => (HDO.out _ (below_alloc W o')).2.2.2.2.2.1
  have d5 := fun (o' : Obj) => (HDO.out _ (below_alloc W o')).2.2.2.2.2.2.1
  have d6 := fun (o' : Obj) => (HDO.out _ (below_alloc W o')).2.2.2.2.2.2.2
  clear hc0
  have i1 : (0 : Int) ≤ (j : Int) := by omega
  have i2 : (j : Int) < (no.dn : Int) := by omega
  by_cases h3 : r.kind ≠ 1
  case pos =>
    have HS := hide (show R = (1, Z.S) from by rw [HI.out]; exact injR_kind h3)
    have e3 : (r.kind != 1) = true := by simpa using h3
    go_enter Try.func109, Try.ntmps109
    go_wp2
    go_ret
    have hb : Below W.heap.size W ((W.alloc (.cells #[.int .i64 p.src, .int .i64 p.dst, .int .i64 p.sport, .int .i64 p.dport] 39)).alloc (.cells #[.string r.name, .int .i64 r.kind, .int .i64 r.addr, .int .u8 r.pool, .slice r.bA r.bn r.bc, .slice r.rA r.rn r.rc, .slice r.tA r.tn r.tc] 97)) := (below_alloc W _).trans ((below_alloc _ _).mono (by simp))
    exact ⟨ret_i64 (by rw [HS.out]), A, c, F, by rw [HS.out]; exact HW.out.below hb, Near.of_below hb, fun j e => Or.inl e⟩
  have e3 : (r.kind != 1) = false := by simpa using h3
  have HK1 := hide (Classical.not_not.1 h3)
  clear h3
  go_enter Try.func109, Try.ntmps109
  go_wp2_with fail
  generalize hG : World.alloc (World.alloc W _) _ = W2
  have HX2 := hide (boxes2 hG).1
  clear hG k0 d0 d1 d2 d3 d4 d5 d6 e3 HDO h1 h2
  refine (packetCheck_walk p W2).mono ?_
  rintro e W3 ⟨he, hb⟩
  have HX3 := hide (HX2.out.below hb)
  clear hb HX2
  by_cases h4 : rightB p = false
  case pos =>
    have HS := hide (show R = (1, Z.S) from by rw [HI.out]; exact injR_right HK1.out h4)
    rw [h4] at he
    obtain rfl : e = .returned (.int .i64 1) := he
    go_wp2
    go_ret
    exact ⟨ret_i64 (by rw [HS.out]), A, c, F, by rw [HS.out]; exact HW.out.below HX3.out.bl, Near.of_below HX3.out.bl, fun j e => Or.inl e⟩
  have h4' : rightB p = true := by simpa using h4
  rw [h4'] at he
  obtain rfl : e = .returned (.int .i64 0) := he
  have HK2 := hide h4'
  clear h4'
  clear h4
  have p0 := (HX3.out.get 1 rfl).1 0 _ rfl
  have a2 := (HX3.out.get 0 rfl).1 2 _ rfl
  by_cases h5 : p.src ≠ r.addr
  case pos =>
    have HS := hide (show R = (1, Z.S) from by rw [HI.out]; exact injR_src HK1.out HK2.out h5)
    have e5 : (p.src != r.addr) = true := by simpa using h5
    go_wp2
    go_ret
    exact ⟨ret_i64 (by rw [HS.out]), A, c, F, by rw [HS.out]; exact HW.out.below HX3.out.bl, Near.of_below HX3.out.bl, fun j e => Or.inl e⟩
  have e5 : (p.src != r.addr) = false := by simpa using h5
  have HK3 := hide (Classical.not_not.1 h5)
  clear h5
  have g0 := (HW.out.below HX3.out.bl).c0
  have g1 := (HW.out.below HX3.out.bl).c1
  have HPE := hide (peer_any (some ⟨db, od, none⟩) no.dn no.dc no.lA no.ln no.lc no.ls (j : Int) 0 W3 hln (HW.out.below HX3.out.bl).net.ls)
  rw [HL.out] at HPE
  go_wp2_with fail
  refine HPE.out.mono ?_
  clear HPE p0 a2 g0 g1 e5
  rintro e W4 ⟨rfl, hb⟩
  have HX4 := hide (HX3.out.below hb)
  clear hb HX3
  cases hpe : peerF ls ((j : Int), 0) with
  | none =>
    have HS := hide (show R = (7, Z.S) from by rw [HI.out]; exact injR_none HK1.out HK2.out HK3.out hpe)
    simp only [peerV]
    go_wp2
    go_ret
    have hb : Below W.heap.size W (W4.alloc (.cells #[.int .i64 0, .int .i64 0] 37)) := HX4.out.bl.trans ((below_alloc _ _).mono HX4.out.bl.size)
    exact ⟨ret_i64 (by rw [HS.out]), A, c, F, by rw [HS.out]; exact HW.out.below hb, Near.of_below hb, fun j e => Or.inl e⟩
  | some z =>
    have HS := hide (show R = (0, comeS Z.S ⟨z.1, z.2, p⟩) from by rw [HI.out]; exact injR_some HK1.out HK2.out HK3.out hpe)
    have hzp := place_ok (netE_ok HE.out).dl (peer_place HE.out hpe)
    simp only [peerV]
    have p0 := fun (o' : Obj) => ((HX4.out.below (below_alloc _ o')).get 1 rfl).1 0 _ rfl
    have p1 := fun (o' : Obj) => ((HX4.out.below (below_alloc _ o')).get 1 rfl).1 1 _ rfl
    have p2 := fun (o' : Obj) => ((HX4.out.below (below_alloc _ o')).get 1 rfl).1 2 _ rfl
    have p3 := fun (o' : Obj) => ((HX4.out.below (below_alloc _ o')).get 1 rfl).1 3 _ rfl
    go_wp2_with fail
    have HB5 := hide (show Below W.heap.size W (W4.alloc (.cells #[.int .i64 z.1, .int .i64 z.2] 37)) from HX4.out.bl.trans ((below_alloc _ _).mono HX4.out.bl.size))
    generalize World.alloc W4 _ = W5 at *
    clear p0 p1 p2 p3
    refine (comes_walk (HW.out.below HB5.out) ⟨z.1, z.2, p⟩ ⟨hzp.1, hzp.2, hp⟩ hl hk).mono ?_
    rintro e W6 ⟨rfl, A', c', F', hw, hn, hF⟩
    have HW6 := hide hw
    have HN6 := hide hn
    have HF6 := hide hF
    clear hw hn hF
    go_wp2
    go_ret
    refine ⟨ret_i64 (by rw [HS.out]), A', c', F', by rw [HS.out]; exact HW6.out, (Near.of_below HB5.out).trans (HN6.out.mono HB5.out.size), fun j e => ?_⟩
    rcases HF6.out j e with e | e
    · exact Or.inl e
    · right; have := HB5.out.size; omega
end Go.Proofs.Ythaiffjalgionaa
