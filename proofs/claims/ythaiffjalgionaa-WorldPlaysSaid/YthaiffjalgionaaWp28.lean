/- A part of the proof: WorldN, MindB. -/
import Derived.Test.YthaiffjalgionaaWp27
import Derived.Deep.DeepCutAuto
import Derived.Deep.CutBlock

set_option linter.unusedVariables false
set_option linter.unusedSimpArgs false
namespace Go.Proofs.Ythaiffjalgionaa
open Go.RowKit Go.Maps

theorem MapIs.no_cell {α : Type} {P : Program} {kt : TypeId} {key : α → Value} {dom : α → Prop} {w : World} {b : Nat} {M : α → Option Value} (h : MapIs P kt key dom w b M) (a : Addr) (ha : a.block = b) : w.cell? a = none := by
  obtain ⟨D, ⟨es, clock, hh, _⟩, _⟩ := h
  simp [World.cell?, ha, hh]
theorem MemAt.no_cell {w : World} {g : Nat} {n : NetV} {f o b : Nat} {M : MS} {k : Nat} (h : MemAt w g n f o b M k) {j : Nat} (hj : Is3 f o b j) (a : Addr) (ha : a.block = j) : w.cell? a = none := by
  rcases hj with e | e | e
  · exact h.mf.no_cell a (ha.trans e)
  · exact h.mo.no_cell a (ha.trans e)
  · exact h.mb.no_cell a (ha.trans e)
theorem MemAt.g_not3 {w : World} {g : Nat} {n : NetV} {f o b : Nat} {M : MS} {k : Nat} (h : MemAt w g n f o b M k) : ¬ Is3 f o b g := fun e => by
  have := h.no_cell e ⟨g, 0, none⟩ rfl
  rw [h.c0] at this
  cases this
section
variable {w : World} {B n s : Nat} {A : Option Addr} {q : Nat → Prop}
theorem sl_on {α : Type} {cells : α → List Value} {l : List α} (h : SlAt cells s w B A n l) (hc : ∀ r, 0 < (cells r).length) (hq : ∀ j, q j → ∀ a : Addr, a.block = j → w.cell? a = none) : 0 < n → ∀ a, A = some a → ¬ q a.block := fun h0 a ha hj => by
  obtain ⟨b, o, e, _, hg⟩ := h.2 h0
  rw [ha] at e
  cases e
  have hl : 0 < l.length := by rw [h.1]; exact h0
  have := hg 0 _ (List.getElem?_eq_getElem hl) 0 _ (List.getElem?_eq_getElem (hc _))
  rw [hq b hj ⟨b, o + 0 * s + 0, none⟩ rfl] at this
  cases this
theorem ints_on {l : List Int} (h : IntsAt w B A n l) (hq : ∀ j, q j → ∀ a : Addr, a.block = j → w.cell? a = none) : 0 < n → ∀ a, A = some a → ¬ q a.block := fun h0 a ha hj => by
  obtain ⟨b, o, e, _, hg⟩ := h.2.2 h0
  rw [ha] at e
  cases e
  have hl : 0 < l.length := by rw [h.1]; exact h0
  have := hg 0 _ (List.getElem?_eq_getElem hl)
  rw [hq b hj ⟨b, o + 0, none⟩ rfl] at this
  cases this
theorem NetAt.off {m : NetV} (h : NetAt w B m) (hq : ∀ j, q j → ∀ a : Addr, a.block = j → w.cell? a = none) : NetOn0 (fun j => ¬ q j) m where
  d := sl_on h.ds (fun r => by rw [DevV.len]; omega) hq
  l := sl_on h.ls (fun r => by show 0 < 4; omega) hq
  o x hx := ⟨ints_on (h.dok x hx).bs hq, sl_on (h.dok x hx).rs.sl (fun r => by rw [RuleV.len]; omega) hq, sl_on (h.dok x hx).ts (fun r => by show 0 < 3; omega) hq⟩
theorem NetOn0.and {p q : Nat → Prop} {m : NetV} (h : NetOn0 p m) (h2 : NetOn0 q m) : NetOn0 (fun j => p j ∧ q j) m :=
  ⟨fun z a e => ⟨h.d z a e, h2.d z a e⟩, fun z a e => ⟨h.l z a e, h2.l z a e⟩, fun x hx => ⟨fun z a e => ⟨(h.o x hx).b z a e, (h2.o x hx).b z a e⟩, fun z a e => ⟨(h.o x hx).r z a e, (h2.o x hx).r z a e⟩, fun z a e => ⟨(h.o x hx).t z a e, (h2.o x hx).t z a e⟩⟩⟩
end
theorem knownV_none : knownV [] = fun _ => none := by funext a; simp [knownV]
theorem world_made {W0 w : World} {Wn : Nat} (h0 : W0.heap.size ≤ Wn) (h1 : Wn ≤ w.heap.size) {no : NetV} {gm : Nat} {nm : NetV} {f o b : Nat} (hn : NetAt w w.heap.size no) (hm : MemAt w gm nm f o b MS.empty 0) (hs : Wn ≤ gm ∧ Wn ≤ f ∧ Wn ≤ o ∧ Wn ≤ b)
    (ho : NetOn0 (fun j => j < W0.heap.size ∨ (Wn ≤ j ∧ j < w.heap.size ∧ ¬ Is3 f o b j)) no) (ho2 : NetOn0 (fun j => j < W0.heap.size ∨ (Wn ≤ j ∧ j < w.heap.size ∧ ¬ Is3 f o b j)) nm) (t : TypeId) :
    WorldAt W0 ((w.alloc (.map #[] 0)).alloc (.cells #[.slice no.dA no.dn no.dc, .slice no.lA no.ln no.lc, .pointer (some ⟨gm, 0, none⟩), .slice none 0 0, .map (some w.heap.size)] t)) (fun j => Wn ≤ j ∧ j < w.heap.size + 2) (w.heap.size + 1) no gm nm f o b w.heap.size none 0 ⟨MS.empty, []⟩ 0 := by
  have hs1 : (w.alloc (.map #[] 0)).heap.size = w.heap.size + 1 := by simp
  have hb : Below w.heap.size w ((w.alloc (.map #[] 0)).alloc (.cells #[.slice no.dA no.dn no.dc, .slice no.lA no.ln no.lc, .pointer (some ⟨gm, 0, none⟩), .slice none 0 0, .map (some w.heap.size)] t)) :=
    ((Below.refl _ _).alloc (Nat.le_refl _) _).alloc (by simp) _
  have hs2 : ((w.alloc (.map #[] 0)).alloc (.cells #[.slice no.dA no.dn no.dc, .slice no.lA no.ln no.lc, .pointer (some ⟨gm, 0, none⟩), .slice none 0 0, .map (some w.heap.size)] t)).heap.size = w.heap.size + 2 := by simp
  have hx := BoxV.new (w.alloc (.map #[] 0)) #[.slice no.dA no.dn no.dc, .slice no.lA no.ln no.lc, .pointer (some ⟨gm, 0, none⟩), .slice none 0 0, .map (some w.heap.size)] t
  rw [hs1] at hx
  have hgm := cell_lt hm.c0
  simp only at hgm
  have h3 : ∀ j, Is3 f o b j → j < w.heap.size := fun j e => by
    have := hm.flt
    have := hm.olt
    have := hm.blt
    rcases e with e | e | e <;> omega
  have hw : ∀ j, (j < W0.heap.size ∨ (Wn ≤ j ∧ j < w.heap.size ∧ ¬ Is3 f o b j)) → (j < W0.heap.size ∨ ((Wn ≤ j ∧ j < w.heap.size + 2) ∧ ¬ Tn (w.heap.size + 1) w.heap.size f o b none j)) := fun j e => by
    rcases e with e | ⟨e1, e2, e3⟩
    · exact Or.inl e
    · refine Or.inr ⟨⟨e1, by omega⟩, fun t => ?_⟩
      rcases t with t | t | t | t
      · omega
      · omega
      · exact e3 t
      · cases t
  refine ⟨hx.1 0 _ rfl, hx.1 1 _ rfl, hx.1 2 _ rfl, hx.1 3 _ rfl, hx.1 4 _ rfl, hx.2 3, World.ownsRow_nil _ _ _ _, hn.below hb hb.size, hm.below hb, ?_, fun j e => ⟨by omega, by rw [hs2]; exact e.2⟩, ⟨by omega, by omega⟩, ⟨by omega, by omega⟩, ⟨by omega, by omega⟩, fun j e => ⟨(by rcases e with e | e | e <;> omega), (by have := h3 j e; omega)⟩, fun j e => (by cases e), (by omega), fun t => ?_, fun j e => (by have := h3 j e; omega), fun j e => (by cases e), ho.weak hw, ho2.weak hw, Nat.le_refl _⟩
  · show MapIs _ _ _ _ _ _ (knownV [])
    rw [knownV_none]
    exact (MapIs.made w).below (B := w.heap.size + 1) ((Below.refl _ _).alloc (by simp) _) (by omega)
  · rcases t with t | t | t | t
    · omega
    · omega
    · exact hm.g_not3 t
    · cases t

structure NB (W : World) (L : List (Nat × Array Value)) (n : NetV) (D E : Option (Option Addr × Nat)) (Z : List (Nat × Array Value)) (w : World) : Prop where
  box : BX W L w
  d : ∀ x, D = some x → w.ownsRow W.heap.size 97 7 (.slice x.1 n.dn x.2) n.dn (n.ds.flatMap DevV.cells)
  e : ∀ x, E = some x → w.ownsRow W.heap.size 99 4 (.slice x.1 n.ln x.2) n.ln (n.ls.flatMap LinkV.cells)
  z : ∀ x ∈ Z, BoxV w x.1 x.2 ∧ x.1 < w.heap.size ∧ W.heap.size ≤ x.1 ∧ (∀ y, D = some y → y.1.map (·.block) ≠ some x.1) ∧ (∀ y, E = some y → y.1.map (·.block) ≠ some x.1) ∧ ∀ y ∈ L, y.1 ≠ x.1
section
variable {W w w' : World} {L Z : List (Nat × Array Value)} {n : NetV} {D E : Option (Option Addr × Nat)}
theorem NB.start (h : BX W L w) : NB W L n none none [] w := ⟨h, fun x e => (by cases e), fun x e => (by cases e), fun x hx => (by cases hx)⟩
theorem NB.below (h : NB W L n D E Z w) (hb : Below w.heap.size w w') : NB W L n D E Z w' :=
  ⟨h.box.below hb, fun x e => own_below (h.d x e) hb, fun x e => own_below (h.e x e) hb, fun x hx => ⟨(h.z x hx).1.below hb (h.z x hx).2.1, Nat.lt_of_lt_of_le (h.z x hx).2.1 hb.size, (h.z x hx).2.2⟩⟩
theorem NB.dr (h : NB W L n D E Z w) : NB W L n D E Z w.drew := h.below (Below.refl _ _).drew
theorem NB.dlt (h : NB W L n D E Z w) {x : Option Addr × Nat} (e : D = some x) : ∀ j, x.1.map (·.block) = some j → j < w.heap.size := fun j hj => ((h.d x e).lt j (by rw [row_blk]; exact hj)).2
theorem NB.elt (h : NB W L n D E Z w) {x : Option Addr × Nat} (e : E = some x) : ∀ j, x.1.map (·.block) = some j → j < w.heap.size := fun j hj => ((h.e x e).lt j (by rw [row_blk]; exact hj)).2
theorem NB.al (h : NB W L n D E Z w) (vs : Array Value) (t : TypeId) : NB W L n D E ((w.heap.size, vs) :: Z) (w.alloc (.cells vs t)) := by
  have q := h.below ((Below.refl _ _).alloc (Nat.le_refl _) (.cells vs t))
  refine ⟨q.box, q.d, q.e, fun x hx => ?_⟩
  rcases List.mem_cons.1 hx with rfl | hx
  · exact ⟨BoxV.new _ _ _, by simp, h.box.bl.size, fun y e e2 => Nat.lt_irrefl _ (h.dlt e _ e2), fun y e e2 => Nat.lt_irrefl _ (h.elt e _ e2), fun y hy => Nat.ne_of_lt (h.box.bx y hy).2⟩
  · exact q.z x hx
theorem NB.dev {x : Option Addr × Nat} (h : NB W L n none E Z w) (hb : Below w.heap.size w w') (ho : w'.ownsRow w.heap.size 97 7 (.slice x.1 n.dn x.2) n.dn (n.ds.flatMap DevV.cells)) : NB W L n (some x) E Z w' := by
  have q := h.below hb
  refine ⟨q.box, fun y e => ?_, q.e, fun z hz => ⟨(q.z z hz).1, (q.z z hz).2.1, (q.z z hz).2.2.1, fun y e e2 => ?_, (q.z z hz).2.2.2.2⟩⟩
  · cases e; exact ho.mono h.box.bl.size
  · cases e
    have := (ho.lt _ (by rw [row_blk]; exact e2)).1
    have := (h.z z hz).2.1
    omega
theorem NB.link {x : Option Addr × Nat} (h : NB W L n D none Z w) (hb : Below w.heap.size w w') (ho : w'.ownsRow w.heap.size 99 4 (.slice x.1 n.ln x.2) n.ln (n.ls.flatMap LinkV.cells)) : NB W L n D (some x) Z w' := by
  have q := h.below hb
  refine ⟨q.box, q.d, fun y e => ?_, fun z hz => ⟨(q.z z hz).1, (q.z z hz).2.1, (q.z z hz).2.2.1, (q.z z hz).2.2.2.1, fun y e e2 => ?_, (q.z z hz).2.2.2.2.2⟩⟩
  · cases e; exact ho.mono h.box.bl.size
  · cases e
    have := (ho.lt _ (by rw [row_blk]; exact e2)).1
    have := (h.z z hz).2.1
    omega
theorem NB.set {N : Nat} {vs : Array Value} (h : NB W L n D E ((N, vs) :: Z) w) (j : Nat) (v : Value) : NB W L n D E [(N, vs.setIfInBounds j v)] (w.setCell ⟨N, j, none⟩ v) := by
  obtain ⟨h1, h2, h3, h4, h5, h6⟩ := h.z (N, vs) List.mem_cons_self
  refine ⟨⟨h.box.bl.setCell h3 v, fun x hx => ⟨(h.box.bx x hx).1.far _ _ (fun e => h6 x hx e.symm), by simpa [World.setCell] using (h.box.bx x hx).2⟩⟩, fun x e => own_setCell (h.d x e) (fun k hk e2 => h4 x e (by rw [row_blk] at hk; rw [hk]; exact congrArg some e2)) _, fun x e => own_setCell (h.e x e) (fun k hk e2 => h5 x e (by rw [row_blk] at hk; rw [hk]; exact congrArg some e2)) _, fun x hx => ?_⟩
  obtain rfl := List.mem_singleton.1 hx
  exact ⟨h1.set j v, by simpa [World.setCell] using h2, h3, h4, h5, h6⟩
theorem NB.leaf {N : Nat} {vs : Array Value} {a c : Option Addr} {b d : Nat} (h : NB W L n (some (a, b)) (some (c, d)) ((N, vs) :: Z) w) : ∃ N' w', N = N' ∧ w = w' ∧ NB W L n (some (a, b)) (some (c, d)) [(N', vs)] w' :=
  ⟨_, _, rfl, rfl, h.box, h.d, h.e, fun x hx => by obtain rfl := List.mem_singleton.1 hx; exact h.z _ List.mem_cons_self⟩
end
theorem cut_region5 {P : Program} {c : Code} {Q : Exit → Act → World → Prop} {a : Act} {w : World} (A : Nat → Option Addr → Nat → Option Addr → Nat → Act) (C : Nat → Option Addr → Nat → Option Addr → Nat → World → Prop) (h1 : Shut (∀ N x1 x2 x3 x4 w', C N x1 x2 x3 x4 w' → Q .normal (A N x1 x2 x3 x4) w') → Code.wp P c Q a w) (h2 : ∀ N x1 x2 x3 x4 w', C N x1 x2 x3 x4 w' → Q .normal (A N x1 x2 x3 x4) w') : Code.wp P c Q a w := h1 h2
set_option maxRecDepth 100000 in
set_option maxHeartbeats 4000000 in
theorem worldNew_bad (n : NetV) (W : World) (hn : NetAt W W.heap.size n) (hE : netE n.devs n.ls ≠ 0) :
    Calls Try.prog 30 #[n.val] W fun e W' => e = .returned (.tuple #[.pointer none, .int .i64 (netE n.devs n.ls)]) ∧ Below W.heap.size W W' := by
  have HNW := hide (fun (w' : World) (hb : Below W.heap.size W w') => stepNew_bad n w' (hn.below hb hb.size) hE)
  obtain ⟨E, hEE⟩ : ∃ E, netE n.devs n.ls = E := ⟨_, rfl⟩
  rw [hEE] at HNW hE ⊢
  clear hEE hn
  have e1 : (E == 0) = false := by simpa using hE
  have e2 : (E != 0) = true := by simpa using hE
  clear hE
  show Calls _ _ #[.agg #[.slice n.dA n.dn n.dc, .slice n.lA n.ln n.lc]] W _
  go_enter Try.func30, Try.ntmps30
  go_wp2_with fail
  have HB1 := hide (show Below W.heap.size W (W.alloc (.cells #[.slice n.dA n.dn n.dc, .slice n.lA n.ln n.lc] 25)) from (Below.refl _ _).alloc (Nat.le_refl _) _)
  generalize World.alloc W _ = W1 at *
  refine (HNW.out W1 HB1.out).mono ?_
  rintro e w2 ⟨rfl, hb⟩
  have HB2 := hide (HB1.out.trans (hb.mono HB1.out.size))
  clear hb HNW
  go_wp2
  go_ret2
  exact ⟨rfl, HB2.out⟩
set_option maxRecDepth 100000 in
set_option maxHeartbeats 8000000 in
theorem worldNew_ok (n : NetV) (W0 W : World) (h0 : W0.heap.size ≤ W.heap.size) (hn : NetAt W W.heap.size n) (hnn : NetOn0 (fun j => j < W0.heap.size) n) (hE : netE n.devs n.ls = 0) :
    Calls Try.prog 30 #[n.val] W fun e W' => ∃ g F no gm nm f o b km, e = .returned (.tuple #[.pointer (some ⟨g, 0, none⟩), .int .i64 0]) ∧ WorldAt W0 W' F g no gm nm f o b km none 0 ⟨MS.empty, []⟩ 0 ∧ (no.devs = n.devs ∧ no.ls = n.ls ∧ nm.devs = n.devs ∧ nm.ls = n.ls) ∧ Below W.heap.size W W' ∧ ∀ j, F j → W.heap.size ≤ j := by
  have hmm := @run_makeMap Try.prog
  have hdl := hn.dlen
  have hll := hn.llen
  have hdn : n.dn ≤ 10 := by rw [← devs_len hn]; exact (netE_ok hE).dl
  have hln : n.ln ≤ 15 := by have h1 := (netE_ok hE).ll; rw [hn.llen] at h1; exact h1
  have HNA := hide (fun (w' : World) (hb : Below W.heap.size W w') => show NetAt w' w'.heap.size n from hn.below hb hb.size)
  have HNW := hide (fun (w' : World) (hb : Below W.heap.size W w') => stepNew_ok2 n w' (hn.below hb hb.size) hE)
  have HNN := hide hnn
  have HDL := hide hdl
  have HLL := hide hll
  clear hn hE hnn hdl hll
  show Calls _ _ #[.agg #[.slice n.dA n.dn n.dc, .slice n.lA n.ln n.lc]] W _
  go_enter Try.func30, Try.ntmps30
  go_wp2_with fail
  have HX1 := hide (((BX.none W).al #[.slice n.dA n.dn n.dc, .slice n.lA n.ln n.lc] 25).done)
  generalize World.alloc W _ = W1 at *
  refine (HNW.out W1 HX1.out.bl).mono ?_
  clear HNW
  rintro e w2 ⟨gm, f, o, b, nm, rfl, hM, hd, hl, hs, hb, hon⟩
  have HX2 := hide (HX1.out.below hb)
  have HM := hide hM
  have HDD := hide (And.intro hd hl)
  have HS := hide (And.intro HX1.out.bl.size hs)
  have HON := hide hon
  clear hM hd hl hs hb hon HX1
  obtain ⟨c0, c1⟩ : w2.cell? ⟨W.heap.size, 0, none⟩ = some (.slice n.dA n.dn n.dc) ∧ w2.cell? ⟨W.heap.size, 1, none⟩ = some (.slice n.lA n.ln n.lc) := ⟨(HX2.out.get 0 rfl).1 0 _ rfl, (HX2.out.get 0 rfl).1 1 _ rfl⟩
  have n1 := Nat.ne_of_lt (HX2.out.bx _ (List.mem_of_getElem? (i := 0) rfl)).2
  have n2 := Ne.symm n1
  go_wp2_with fail
  have HXX := hide HX2.out
  have HX0 := hide (show BX w2 [] w2 from BX.none w2)
  have HC0 := hide (And.intro c0 c1)
  have HCD := hide (fun (w' : World) (hb : Below w2.heap.size w2 w') => cloneDev_walk n.ds n.dA n.dn n.dc w' (by omega) (HNA.out _ (HX2.out.bl.trans (hb.mono HX2.out.bl.size))).ds)
  have HCL := hide (fun (w' : World) (hb : Below w2.heap.size w2 w') => cloneLink_walk n.ls n.lA n.ln n.lc w' (by omega) (HNA.out _ (HX2.out.bl.trans (hb.mono HX2.out.bl.size))).ls)
  have HG := hide (NB.start (n := n) (show BX w2 [(W.heap.size, #[.slice n.dA n.dn n.dc, .slice n.lA n.ln n.lc])] w2 from ⟨Below.refl _ _, HX2.out.bx⟩))
  -- R4
  apply cut_region5 (C := fun N dA dc lA lc w' => NB w2 [(W.heap.size, #[.slice n.dA n.dn n.dc, .slice n.lA n.ln n.lc])] n (some (dA, dc)) (some (lA, lc)) [(N, #[.slice dA n.dn dc, .slice lA n.ln lc])] w')
  · intro HK
    go_region_held3 (fun w' => w'.cell? ⟨W.heap.size, 0, none⟩ = some (.slice n.dA n.dn n.dc) ∧ w'.cell? ⟨W.heap.size, 1, none⟩ = some (.slice n.lA n.ln n.lc)) (go_keep) (first | (go_at_call 106; (first | refine (HCD.out _ (HG.out.dr.box.bl)).mono ?_ | refine (HCD.out _ (HG.out.al _ _).dr.box.bl).mono ?_ | refine (HCD.out _ HG.out.box.bl).mono ?_ | refine (HCD.out _ (HG.out.al _ _).box.bl).mono ?_); rintro e wp ⟨v, rfl, hown, hb⟩; obtain ⟨dA, dc, rfl, _, _, _⟩ := SlAt.of_own DevV.len hown HDL.out; (first | have HG := hide (HG.out.dr.dev (x := (dA, dc)) hb hown) | have HG := hide ((HG.out.al _ _).dr.dev (x := (dA, dc)) hb hown) | have HG := hide (HG.out.dev (x := (dA, dc)) hb hown) | have HG := hide ((HG.out.al _ _).dev (x := (dA, dc)) hb hown)); obtain ⟨c0, c1⟩ : _ ∧ _ := ⟨(HG.out.box.get 0 rfl).1 0 _ rfl, (HG.out.box.get 0 rfl).1 1 _ rfl⟩; have n1 := Nat.ne_of_lt (HG.out.box.bx _ (List.mem_of_getElem? (i := 0) rfl)).2; have n2 := Ne.symm n1; (try obtain ⟨z0, z1, f0, f1⟩ : _ ∧ _ ∧ _ ∧ _ := ⟨(HG.out.z _ List.mem_cons_self).1.1 0 _ rfl, (HG.out.z _ List.mem_cons_self).1.1 1 _ rfl, (HG.out.z _ List.mem_cons_self).1.2 0, (HG.out.z _ List.mem_cons_self).1.2 1⟩)) | (go_at_call 107; (first | refine (HCL.out _ (HG.out.dr.box.bl)).mono ?_ | refine (HCL.out _ (HG.out.al _ _).dr.box.bl).mono ?_ | refine (HCL.out _ HG.out.box.bl).mono ?_ | refine (HCL.out _ (HG.out.al _ _).box.bl).mono ?_); rintro e wp ⟨v, rfl, hown, hb⟩; obtain ⟨lA, lc, rfl, _, _, _⟩ := SlAt.of_own LinkV.len hown HLL.out; (first | have HG := hide (HG.out.dr.link (x := (lA, lc)) hb hown) | have HG := hide ((HG.out.al _ _).dr.link (x := (lA, lc)) hb hown) | have HG := hide (HG.out.link (x := (lA, lc)) hb hown) | have HG := hide ((HG.out.al _ _).link (x := (lA, lc)) hb hown)); obtain ⟨c0, c1⟩ : _ ∧ _ := ⟨(HG.out.box.get 0 rfl).1 0 _ rfl, (HG.out.box.get 0 rfl).1 1 _ rfl⟩; have n1 := Nat.ne_of_lt (HG.out.box.bx _ (List.mem_of_getElem? (i := 0) rfl)).2; have n2 := Ne.symm n1; (try obtain ⟨z0, z1, f0, f1⟩ : _ ∧ _ ∧ _ ∧ _ := ⟨(HG.out.z _ List.mem_cons_self).1.1 0 _ rfl, (HG.out.z _ List.mem_cons_self).1.1 1 _ rfl, (HG.out.z _ List.mem_cons_self).1.2 0, (HG.out.z _ List.mem_cons_self).1.2 1⟩)))
    all_goals (first | (obtain ⟨N', w', e1, e2, q⟩ := (HG.out.al #[.slice dA n.dn dc, .slice lA n.ln lc] 25).leaf; rw [e2, e1]; exact HK.out _ _ _ _ _ _ q) | (obtain ⟨N', w', e1, e2, q⟩ := ((HG.out.set 0 (.slice dA n.dn dc)).set 1 (.slice lA n.ln lc)).leaf; rw [e2, e1]; exact HK.out _ _ _ _ _ _ q))
  clear HG HCD HCL c0 c1 n1 n2 HX0 HC0
  intro N dA dc lA lc w4 hNB
  have HNB := hide hNB
  obtain ⟨z0, z1⟩ : w4.cell? ⟨N, 0, none⟩ = some (.slice dA n.dn dc) ∧ w4.cell? ⟨N, 1, none⟩ = some (.slice lA n.ln lc) := ⟨(hNB.z _ List.mem_cons_self).1.1 0 _ rfl, (hNB.z _ List.mem_cons_self).1.1 1 _ rfl⟩
  clear hNB
  have HB4 := hide (HX2.out.bl.trans (HNB.out.box.bl.mono HX2.out.bl.size))
  have HWM := hide (show WorldAt W0 ((w4.alloc (.map #[] 0)).alloc (.cells #[.slice dA n.dn dc, .slice lA n.ln lc, .pointer (some ⟨gm, 0, none⟩), .slice none 0 0, .map (some w4.heap.size)] 186)) (fun j => W.heap.size ≤ j ∧ j < w4.heap.size + 2) (w4.heap.size + 1) ⟨dA, n.dn, dc, n.ds, lA, n.ln, lc, n.ls⟩ gm nm f o b w4.heap.size none 0 ⟨MS.empty, []⟩ 0 from by
    have hs4 := HNB.out.box.bl.size
    have hs2 := HX2.out.bl.size
    have hd0 := HNB.out.d _ rfl
    have he0 := HNB.out.e _ rfl
    obtain ⟨_, _, e1, hcd, hsd, had⟩ := SlAt.of_own DevV.len hd0 HDL.out
    cases e1
    obtain ⟨_, _, e1, hcl, hsl, hal⟩ := SlAt.of_own LinkV.len he0 HLL.out
    cases e1
    have hnb := HNA.out _ HB4.out
    have hm4 := HM.out.below HNB.out.box.bl
    have h3 : ∀ j, Is3 f o b j → j < w2.heap.size := fun j e => by
      have := HM.out.flt
      have := HM.out.olt
      have := HM.out.blt
      rcases e with e | e | e <;> omega
    have hsz := HS.out
    have hno : NetAt w4 w4.heap.size ⟨dA, n.dn, dc, n.ds, lA, n.ln, lc, n.ls⟩ := ⟨hsd, hnb.dok, hsl, hnb.lok, ⟨hcd, own_cap hd0⟩, ⟨hcl, own_cap he0⟩⟩
    refine world_made (by omega) (by omega) hno hm4 ⟨by omega, by omega, by omega, by omega⟩ ⟨fun z a e => ?_, fun z a e => ?_, fun x hx => ?_⟩ ?_ _
    · have h1 := had a e
      have h2 := (hd0.lt a.block (by rw [row_blk]; show dA.map _ = _; rw [show dA = some a from e]; rfl)).2
      exact Or.inr ⟨by omega, h2, fun e3 => by have := h3 _ e3; omega⟩
    · have h1 := hal a e
      have h2 := (he0.lt a.block (by rw [row_blk]; show lA.map _ = _; rw [show lA = some a from e]; rfl)).2
      exact Or.inr ⟨by omega, h2, fun e3 => by have := h3 _ e3; omega⟩
    · exact (HNN.out.o x hx).weak (fun j e => Or.inl e)
    · have q1 := (HM.out.net.on HON.out)
      have q2 := HM.out.net.off (q := Is3 f o b) (fun j hj a ha => HM.out.no_cell hj a ha)
      exact (q1.and q2).weak (fun j e => Or.inr ⟨by omega, by omega, e.2⟩))
  have HBB := hide (show Below W.heap.size W ((w4.alloc (.map #[] 0)).alloc (.cells #[.slice dA n.dn dc, .slice lA n.ln lc, .pointer (some ⟨gm, 0, none⟩), .slice none 0 0, .map (some w4.heap.size)] 186)) from (HB4.out.alloc HB4.out.size _).alloc (by have := HB4.out.size; simp; omega) _)
  go_wp2
  go_ret2
  exact ⟨_, _, _, _, _, _, _, _, _, rfl, HWM.out, ⟨rfl, rfl, HDD.out.1, HDD.out.2⟩, HBB.out, fun j e => e.1⟩
end Go.Proofs.Ythaiffjalgionaa

set_option linter.unusedVariables false
set_option linter.unusedSimpArgs false
namespace Go.Proofs.Ythaiffjalgionaa
open Go.RowKit

set_option maxRecDepth 100000 in
set_option maxHeartbeats 16000000 in
theorem mindHand_bad (g : Nat) (n : NetV) (A : Option Addr) (c : Nat) (L : List FactV) (i y : Int) (p : P4) (ch : Int) (W : World) (hM : MindAt W g n A c L) (hE : netE n.devs n.ls = 0) (hi : i64ok i) (hy : i64ok y) (hp : p.ok) (hch : i64ok ch) (hL : L.length ≤ 1000) (hbad : placeB n.devs (i, y) = false ∨ rightB p = false) :
    Calls Try.prog 14 #[.pointer (some ⟨g, 0, none⟩), .agg #[.int .i64 i, .int .i64 y], .agg #[.int .i64 p.src, .int .i64 p.dst, .int .i64 p.sport, .int .i64 p.dport], .int .i64 ch] W (MindP W g n A (mindS n.devs n.ls L i y p ch)) := by
  have HBD := hide hbad
  clear hbad
  have HMW := hide hM
  have HMM := hide (fun (w' : World) (hb : Below W.heap.size W w') => hM.below hb)
  have hok := netE_ok hE
  have hdl := devs_len hM.net
  have hdn : n.dn ≤ 10 := by rw [← hdl]; exact hok.dl
  have hln : n.ln ≤ 15 := by have := hok.ll; rw [hM.net.llen] at this; exact this
  have hgs := hM.glt
  have HDV := hide (net_devs_ok hE)
  have HDL := hide hdl
  have HCH := hide hch
  have HPO := hide hp
  have HLL := hide hL
  clear hM hE hok hch hp hL
  obtain ⟨i1, i2⟩ := hi
  obtain ⟨y1, y2⟩ := hy
  obtain ⟨SR, hSR⟩ : ∃ SR, mindS n.devs n.ls L i y p ch = SR := ⟨_, rfl⟩
  have HSR := hide hSR
  rw [hSR]
  clear hSR
  go_enter Try.func14, Try.ntmps14
  go_wp2
  generalize hG : World.alloc (World.alloc (World.alloc (World.alloc W _) _) _) _ = W1
  have HX1 := hide (show BX W [(W.heap.size, #[.int .i64 i, .int .i64 y]), (W.heap.size + 1, #[.int .i64 p.src, .int .i64 p.dst, .int .i64 p.sport, .int .i64 p.dport]), (W.heap.size + 1 + 1, #[.int .i64 ch]), (W.heap.size + 1 + 1 + 1, #[.int .i64 0, .int .i64 0, .int .i64 0, .int .i64 0, .int .i64 0, .int .i64 0])] W1 from by
    have e := boxesV (B := W1.heap.size) [(#[.int .i64 i, .int .i64 y], 37), (#[.int .i64 p.src, .int .i64 p.dst, .int .i64 p.sport, .int .i64 p.dport], 39), (#[.int .i64 ch], 3), (#[.int .i64 0, .int .i64 0, .int .i64 0, .int .i64 0, .int .i64 0, .int .i64 0], 43)] W (W' := W1) (by rw [← hG]; exact Below.refl _ _)
    have hs : W1.heap.size = W.heap.size + 4 := by rw [← hG]; simp
    refine ⟨e.2 (by omega), fun x hx => ?_⟩
    simp only [List.mem_cons, List.not_mem_nil, or_false] at hx
    rcases hx with rfl | rfl | rfl | rfl
    · exact ⟨e.1 0 _ _ rfl (by omega), by simp; omega⟩
    · exact ⟨e.1 1 _ _ rfl (by omega), by simp; omega⟩
    · exact ⟨e.1 2 _ _ rfl (by omega), by simp; omega⟩
    · exact ⟨e.1 3 _ _ rfl (by omega), by simp; omega⟩)
  clear hG
  have i3 : (0 : Int) ≤ (n.dn : Int) := by omega
  have i4 : (n.dn : Int) ≤ 10 := by omega
  cases hi1 : inR i 0 ((n.dn : Int) - 1)
  case false =>
    have HS := hide (show SR = (.bad 4, L) from by
      rw [← HSR.out]
      refine mindS_place ?_
      have h1 : ¬ (0 ≤ i ∧ i < (n.dn : Int)) := by simp only [inR, Bool.and_eq_false_iff, decide_eq_false_iff_not] at hi1; omega
      simp only [placeB, HDL.out, Bool.and_eq_false_iff, decide_eq_false_iff_not]
      omega)
    refine wp_region_abs (by kernel_rfl) (by kernel_rfl) ?_
    intro T hT gt hg1 hgi
    have HGT := hide hg1
    have HGI := hide hgi
    clear hg1 hgi
    have k0 : ∀ t, (gt t).cell? ⟨W.heap.size, 0, none⟩ = some (.int .i64 i) := fun t => ((HX1.out.below (HGT.out t)).get 0 rfl).1 0 _ rfl
    have k2 : ∀ t, (gt t).cell? ⟨g, 0, none⟩ = some (.slice n.dA n.dn n.dc) := fun t => (HMM.out _ (HX1.out.below (HGT.out t)).bl).c0
    have hc1 := hide (fun t => inR_is (gt t) hi1)
    repeat (go_big_quiet_step ((go_at_call 19; exact inAbsSame (hc1.out _))))
    refine wpQuiet_nil ?_
    intro _ hw'
    obtain ⟨t, rfl⟩ := hw'
    have HX2 := hide (HX1.out.below (HGT.out t))
    generalize gt t = w2 at *
    clear HGT HGI k0 k2 hc1
    have hb3 := HX2.out.get 3 rfl
    have hbw := HX2.out.bl
    go_wp2_with ((with_reducible show wpList _ _ _ (⟨none, .store 43 (.tmp 8) _, _, _, _, _⟩ :: _) _ _); refine wpList_store_mid rfl 43 (.tmp 8) (.tmp 52) rfl (W.heap.size + 1 + 1 + 1) 0 #[.int .i64 0, .int .i64 0, .int .i64 0, .int .i64 0, .int .i64 0, .int .i64 0] rfl rfl (hb3.there (Nat.le_refl _)) info_arrival (by simp [Value.oneCell']) ?_)
    have hx7 := hb3.all [.int .i64 0, .int .i64 0, .int .i64 0, .int .i64 0, .int .i64 0, .int .i64 0] rfl
    have hb7 := below_setCells (B := W.heap.size) (N := W.heap.size + 1 + 1 + 1) (by omega) [.int .i64 0, .int .i64 0, .int .i64 0, .int .i64 0, .int .i64 0, .int .i64 0] 0 _ hbw
    clear hb3 hbw
    generalize World.setCells _ _ _ _ = w7 at *
    obtain ⟨z0, z1, z2, z3, z4, z5⟩ := (cells6 hx7).1
    try simp only [Exit.inBlock, Exit.then]
    refine bodyPost_ret (v := .tuple #[.agg #[.int .i64 0, .int .i64 0, .int .i64 0, .int .i64 0, .int .i64 0, .int .i64 0], .int .i64 4]) (by simp [results, Try.f14, go_sem, z0, z1, z2, z3, z4, z5]) rfl ?_
    rw [HS.out]; exact MindP.same HMW.out hb7 rfl
  obtain ⟨i', rfl⟩ : ∃ i' : Nat, i = (i' : Int) := ⟨i.toNat, by simp only [inR, Bool.and_eq_true, decide_eq_true_eq] at hi1; omega⟩
  have hil : i' < n.dn := by simp only [inR, Bool.and_eq_true, decide_eq_true_eq] at hi1; omega
  obtain ⟨r, hr⟩ : ∃ r, n.ds[i']? = some r := ⟨_, List.getElem?_eq_getElem (by rw [HMW.out.net.dlen]; exact hil)⟩
  have hrd : n.devs[i']? = some r.dev := by simp [NetV.devs, hr]
  have hka : kindAt n.devs (i' : Int) = r.kind := by simp [kindAt, hrd, DevV.dev]
  have HRR := hide hr
  have HRD := hide hrd
  have HD := hide (HDV.out r.dev (List.mem_of_getElem? hrd))
  clear hr hrd
  obtain ⟨b, o, hdA, _, _⟩ := HMW.out.net.ds.2 (by omega)
  have HPO2 := hide (fun w => refPorts_walk r.kind w)
  have hpf := portsF_rng r.kind
  obtain ⟨pf1, pf2⟩ := hpf
  obtain ⟨PF, hPF⟩ : ∃ PF, portsF r.kind = PF := ⟨_, rfl⟩
  rw [hPF] at pf1 pf2
  have HPF := hide hPF
  simp only [hPF] at HPO2
  clear hPF
  have j1 : (0 : Int) ≤ (i' : Int) := by omega
  have j2 : (i' : Int) < (n.dn : Int) := by omega
  skip
  cases hy1 : inR y 0 (PF - 1)
  case false =>
    have HS := hide (show SR = (.bad 4, L) from by
      rw [← HSR.out]
      refine mindS_place ?_
      have h1 : ¬ (0 ≤ y ∧ y < PF) := by simp only [inR, Bool.and_eq_false_iff, decide_eq_false_iff_not] at hy1; omega
      simp only [placeB, hka, HPF.out, Bool.and_eq_false_iff, decide_eq_false_iff_not]
      omega)
    clear hka
    refine wp_region_abs (by kernel_rfl) (by kernel_rfl) ?_
    intro T hT gt hg1 hgi
    have HGT := hide hg1
    have HGI := hide hgi
    clear hg1 hgi
    have k0 : ∀ t, (gt t).cell? ⟨W.heap.size, 0, none⟩ = some (.int .i64 (i' : Int)) := fun t => ((HX1.out.below (HGT.out t)).get 0 rfl).1 0 _ rfl
    have k1 : ∀ t, (gt t).cell? ⟨W.heap.size, 1, none⟩ = some (.int .i64 y) := fun t => ((HX1.out.below (HGT.out t)).get 0 rfl).1 1 _ rfl
    have k2 : ∀ t, (gt t).cell? ⟨g, 0, none⟩ = some (.slice (some ⟨b, o, none⟩) n.dn n.dc) := fun t => by have q := (HMM.out _ (HX1.out.below (HGT.out t)).bl).c0; rw [hdA] at q; exact q
    have k3 : ∀ t, (gt t).cell? ⟨b, o + i' * 7 + 1, none⟩ = some (.int .i64 r.kind) := fun t => (dev_get (n := n.dn) (by have q := (HMM.out _ (HX1.out.below (HGT.out t)).bl).net.ds; rw [hdA] at q; exact q) HRR.out).2.2.1
    have hc1 := hide (fun t => inR_is (gt t) hi1)
    have hc3 := hide (fun t => inR_is (gt t) hy1)
    repeat (go_big_quiet_step ((first | (go_at_call_of 19 (Value.int .i64 y); exact inAbsSame (hc3.out _)) | (go_at_call 19; exact inAbsSame (hc1.out _)) | (go_at_call 46; exact inAbs HGT.out HGI.out (HPO2.out _)))))
    refine wpQuiet_nil ?_
    intro _ hw'
    obtain ⟨t, rfl⟩ := hw'
    have HX2 := hide (HX1.out.below (HGT.out t))
    generalize gt t = w2 at *
    clear HGT HGI k0 k1 k2 k3 hc1 hc3
    have hb3 := HX2.out.get 3 rfl
    have hbw := HX2.out.bl
    go_wp2_with ((with_reducible show wpList _ _ _ (⟨none, .store 43 (.tmp 8) _, _, _, _, _⟩ :: _) _ _); refine wpList_store_mid rfl 43 (.tmp 8) (.tmp 52) rfl (W.heap.size + 1 + 1 + 1) 0 #[.int .i64 0, .int .i64 0, .int .i64 0, .int .i64 0, .int .i64 0, .int .i64 0] rfl rfl (hb3.there (Nat.le_refl _)) info_arrival (by simp [Value.oneCell']) ?_)
    have hx7 := hb3.all [.int .i64 0, .int .i64 0, .int .i64 0, .int .i64 0, .int .i64 0, .int .i64 0] rfl
    have hb7 := below_setCells (B := W.heap.size) (N := W.heap.size + 1 + 1 + 1) (by omega) [.int .i64 0, .int .i64 0, .int .i64 0, .int .i64 0, .int .i64 0, .int .i64 0] 0 _ hbw
    clear hb3 hbw
    generalize World.setCells _ _ _ _ = w7 at *
    obtain ⟨z0, z1, z2, z3, z4, z5⟩ := (cells6 hx7).1
    try simp only [Exit.inBlock, Exit.then]
    refine bodyPost_ret (v := .tuple #[.agg #[.int .i64 0, .int .i64 0, .int .i64 0, .int .i64 0, .int .i64 0, .int .i64 0], .int .i64 4]) (by simp [results, Try.f14, go_sem, z0, z1, z2, z3, z4, z5]) rfl ?_
    rw [HS.out]; exact MindP.same HMW.out hb7 rfl
  have HPL := hide (show placeB n.devs ((i' : Int), y) = true from by
    simp only [inR, Bool.and_eq_true, decide_eq_true_eq] at hy1
    simp only [placeB, hka, HPF.out, HDL.out, Bool.and_eq_true, decide_eq_true_eq]
    omega)
  have HYR := hide (show 0 ≤ y ∧ y < PF from by simp only [inR, Bool.and_eq_true, decide_eq_true_eq] at hy1; omega)
  clear hka
  refine wp_region_abs (by kernel_rfl) (by kernel_rfl) ?_
  intro T hT gt hg1 hgi
  have HGT := hide hg1
  have HGI := hide hgi
  clear hg1 hgi
  have k0 : ∀ t, (gt t).cell? ⟨W.heap.size, 0, none⟩ = some (.int .i64 (i' : Int)) := fun t => ((HX1.out.below (HGT.out t)).get 0 rfl).1 0 _ rfl
  have k1 : ∀ t, (gt t).cell? ⟨W.heap.size, 1, none⟩ = some (.int .i64 y) := fun t => ((HX1.out.below (HGT.out t)).get 0 rfl).1 1 _ rfl
  have k2 : ∀ t, (gt t).cell? ⟨g, 0, none⟩ = some (.slice (some ⟨b, o, none⟩) n.dn n.dc) := fun t => by have q := (HMM.out _ (HX1.out.below (HGT.out t)).bl).c0; rw [hdA] at q; exact q
  have k3 : ∀ t, (gt t).cell? ⟨b, o + i' * 7 + 1, none⟩ = some (.int .i64 r.kind) := fun t => (dev_get (n := n.dn) (by have q := (HMM.out _ (HX1.out.below (HGT.out t)).bl).net.ds; rw [hdA] at q; exact q) HRR.out).2.2.1
  have hc1 := hide (fun t => inR_is (gt t) hi1)
  have hc3 := hide (fun t => inR_is (gt t) hy1)
  repeat (go_big_quiet_step ((first | (go_at_call_of 19 (Value.int .i64 y); exact inAbsSame (hc3.out _)) | (go_at_call 19; exact inAbsSame (hc1.out _)) | (go_at_call 46; exact inAbs HGT.out HGI.out (HPO2.out _)))))
  refine wpQuiet_nil ?_
  intro _ hw'
  obtain ⟨t, rfl⟩ := hw'
  have HX2 := hide (HX1.out.below (HGT.out t))
  generalize gt t = w2 at *
  clear HGT HGI k0 k1 k2 k3 hc1 hc3
  clear hi1 hy1 HX1 HPO2
  obtain ⟨p0, p1, p2, p3⟩ := cells4 (HX2.out.get 1 rfl)
  cases hrp : rightB p
  case false =>
    have HS := hide (show SR = (.bad 1, L) from by rw [← HSR.out]; exact mindS_right HPL.out hrp)
    go_wp2_with fail
    refine (right_is p w2 false hrp).mono ?_
    rintro e w3 ⟨rfl, hb⟩
    have HX3 := hide (HX2.out.below hb)
    clear hb p0 p1 p2 p3 HX2
    have hb3 := HX3.out.get 3 rfl
    have hbw := HX3.out.bl
    go_wp2_with ((with_reducible show wpList _ _ _ (⟨none, .store 43 (.tmp 8) _, _, _, _, _⟩ :: _) _ _); refine wpList_store_mid rfl 43 (.tmp 8) (.tmp 56) rfl (W.heap.size + 1 + 1 + 1) 0 #[.int .i64 0, .int .i64 0, .int .i64 0, .int .i64 0, .int .i64 0, .int .i64 0] rfl rfl (hb3.there (Nat.le_refl _)) info_arrival (by simp [Value.oneCell']) ?_)
    have hx7 := hb3.all [.int .i64 0, .int .i64 0, .int .i64 0, .int .i64 0, .int .i64 0, .int .i64 0] rfl
    have hb7 := below_setCells (B := W.heap.size) (N := W.heap.size + 1 + 1 + 1) (by omega) [.int .i64 0, .int .i64 0, .int .i64 0, .int .i64 0, .int .i64 0, .int .i64 0] 0 _ hbw
    clear hb3 hbw
    generalize World.setCells _ _ _ _ = w7 at *
    obtain ⟨z0, z1, z2, z3, z4, z5⟩ := (cells6 hx7).1
    try simp only [Exit.inBlock, Exit.then]
    refine bodyPost_ret (v := .tuple #[.agg #[.int .i64 0, .int .i64 0, .int .i64 0, .int .i64 0, .int .i64 0, .int .i64 0], .int .i64 1]) (by simp [results, Try.f14, go_sem, z0, z1, z2, z3, z4, z5]) rfl ?_
    rw [HS.out]; exact MindP.same HMW.out hb7 rfl
  rcases HBD.out with h | h
  · rw [HPL.out] at h; cases h
  · rw [hrp] at h; cases h
end Go.Proofs.Ythaiffjalgionaa
