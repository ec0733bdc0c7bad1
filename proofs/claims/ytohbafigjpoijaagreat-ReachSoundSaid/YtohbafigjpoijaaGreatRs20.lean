/- A part of the proof: StepStay, Ring4, StepNext, StepDev, StepMem, Boxes. -/
import Derived.Test.YtohbafigjpoijaaGreatRs19
import Derived.Deep.MidRow
set_option linter.unusedVariables false
set_option linter.unusedSimpArgs false
set_option maxRecDepth 100000
namespace Go.Proofs.YtohbafigjpoijaaGreat
open Go.RowKit
def StayOn (p : Nat → Prop) (w w' : World) : Prop := ∀ (a : Addr) (v : Value), p a.block → w.cell? a = some v → w'.cell? a = some v
section
variable {p : Nat → Prop} {w w' w'' : World} {B B' n : Nat} {A : Option Addr}
theorem cell_lt {a : Addr} {v : Value} (h : w.cell? a = some v) : a.block < w.heap.size := by
  by_cases hl : a.block < w.heap.size
  · exact hl
  · exfalso
    have hn : w.heap[a.block]? = none := Array.getElem?_eq_none (by omega)
    simp [World.cell?, hn] at h
theorem StayOn.trans (h : StayOn p w w') (h' : StayOn p w' w'') : StayOn p w w'' := fun a v hp hv => h' a v hp (h a v hp hv)
theorem StayOn.of_below (h : Below B w w') : StayOn (fun k => k < B) w w' := fun a v hp hv => (h.cell (p := a) hp).trans hv
theorem StayOn.of_grown {row : Option Nat} (h : w.grownBy w' row) : StayOn (fun k => some k ≠ row) w w' := fun a v hp hv =>
  (World.cell?_of_block (h.block a.block (cell_lt hv) hp)).trans hv
theorem StayOn.of_turned {b : Nat} (h : w.mapTurned w' b) : StayOn (fun _ => True) w w' := fun a v _ hv => by
  by_cases e : a.block = b
  · exfalso
    obtain ⟨es, clock, es', clock', hb, _⟩ := h
    simp [World.cell?, e, hb] at hv
  · exact StayOn.of_grown h.grown a v (by simpa using e) hv
theorem StayOn.of_set (q : Addr) (u : Value) : StayOn (fun k => k ≠ q.block) w (w.setCell q u) := fun a v hp hv =>
  (World.cell?_of_block (Below.heap_setCell w q u a.block hp)).trans hv
theorem StayOn.weak {q : Nat → Prop} (h : StayOn p w w') (hq : ∀ k, q k → p k) : StayOn q w w' := fun a v hp hv => h a v (hq _ hp) hv
theorem SlAt.stay {α : Type} {cells : α → List Value} {s : Nat} {l : List α} (h : SlAt cells s w B A n l) (hs : StayOn p w w') (hp : ∀ a, A = some a → p a.block) (hB : B ≤ B') : SlAt cells s w' B' A n l :=
  ⟨h.1, fun h0 => by
    obtain ⟨b, o, e, hb, hg⟩ := h.2 h0
    exact ⟨b, o, e, by omega, fun k r hr j v hv => hs _ _ (show p b from hp _ e) (hg k r hr j v hv)⟩⟩
theorem IntsAt.stay {l : List Int} (h : IntsAt w B A n l) (hs : StayOn p w w') (hp : ∀ a, A = some a → p a.block) (hB : B ≤ B') : IntsAt w' B' A n l :=
  ⟨h.1, h.2.1, fun h0 => by
    obtain ⟨b, o, e, hb, hg⟩ := h.2.2 h0
    exact ⟨b, o, e, by omega, fun k x hx => hs _ _ (show p b from hp _ e) (hg k x hx)⟩⟩
theorem RulesAt.stay {l : List RuleV} (h : RulesAt w B A n l) (hs : StayOn p w w') (hp : ∀ a, A = some a → p a.block) (hB : B ≤ B') : RulesAt w' B' A n l :=
  (h.sl.stay hs hp hB).rules h.2.1
structure DevOn (p : Nat → Prop) (d : DevV) : Prop where
  b : ∀ a, d.bA = some a → p a.block
  r : ∀ a, d.rA = some a → p a.block
  t : ∀ a, d.tA = some a → p a.block
theorem DevOn.weak {q : Nat → Prop} {d : DevV} (h : DevOn p d) (hq : ∀ k, p k → q k) : DevOn q d := ⟨fun a e => hq _ (h.b a e), fun a e => hq _ (h.r a e), fun a e => hq _ (h.t a e)⟩
theorem DevAt.stay {d : DevV} (h : DevAt w B d) (hs : StayOn p w w') (hp : DevOn p d) (hB : B ≤ B') : DevAt w' B' d :=
  ⟨h.nm, h.kd, h.ad, h.pl, h.bs.stay hs hp.b hB, h.rs.stay hs hp.r hB, h.ts.stay hs hp.t hB, h.tok, h.cb, h.cr, h.ct⟩
theorem NetAt.stay {m : NetV} (h : NetAt w B m) (hs : StayOn p w w') (hd : ∀ a, m.dA = some a → p a.block) (hl : ∀ a, m.lA = some a → p a.block) (ho : ∀ d ∈ m.ds, DevOn p d) (hB : B ≤ B') : NetAt w' B' m :=
  { ds := h.ds.stay hs hd hB, dok := fun d hm => (h.dok d hm).stay hs (ho d hm) hB, ls := h.ls.stay hs hl hB, lok := h.lok, cd := h.cd, cl := h.cl }
end
section
variable {α : Type} {P : Program} {kt : TypeId} {key : α → Value} {dom : α → Prop} {w w' : World} {b c : Nat} {M : α → Option Value}
theorem MapIs.below {B : Nat} (h : MapIs P kt key dom w b M) (hb : Below B w w') (hB : b < B) : MapIs P kt key dom w' b M := h.same (hb.block b hB)
theorem MapIs.turned (h : MapIs P kt key dom w b M) (ht : w.mapTurned w' c) (hne : b ≠ c) : MapIs P kt key dom w' b M := h.kept ht.grown (by simpa using hne)
end
section
variable {W w w' : World} {n : NetV} {p : P4} {a b : Int}
theorem own_set {base e s m : Nat} {v : Value} {xs : List Value} (h : w.ownsRow base e s v m xs) {q : Addr} (hq : q.block < base) (u : Value) : (w.setCell q u).ownsRow base e s v m xs :=
  own_same h (fun k hk => Below.heap_setCell w q u k (by have := (h.lt k hk).1; omega))
end
open Go.ChangeAt Go.ChangeShapes Go.WideShapes
theorem own_cap {w : World} {base e s m n c : Nat} {A : Option Addr} {xs : List Value} (h : w.ownsRow base e s (.slice A n c) m xs) : c ≤ maxLen := by
  rcases h.2 with ⟨e, _⟩ | ⟨q, cap, cur, e, r⟩
  · simp only [Value.slice.injEq] at e; rw [e.2.2]; exact Nat.zero_le _
  · simp only [Value.slice.injEq] at e; rw [e.2.2]; exact r.2.2.2.1
theorem ints_sl {w : World} {B n : Nat} {A : Option Addr} {l : List Int} (h : IntsAt w B A n l) : SlAt i64Cells 1 w B A n l :=
  ⟨h.1, fun h0 => by
    obtain ⟨b, o, e, hb, hg⟩ := h.2.2 h0
    refine ⟨b, o, e, hb, fun k r hr j v hv => ?_⟩
    match j, hv with
    | 0, hv => cases hv; rw [Nat.mul_one]; exact hg k r hr⟩
def DBoxF (w : World) (N : Nat) (d : DevV) : Prop := DBox w N d ∧ ∀ o, w.frozen? ⟨N, o, none⟩ = false
theorem DBoxF.below {w w' : World} {B N : Nat} {d : DevV} (h : DBoxF w N d) (hB : Below B w w') (hN : N < B) : DBoxF w' N d :=
  ⟨h.1.below hB hN, fun o => (hB.frozen (p := ⟨N, o, none⟩) hN).trans (h.2 o)⟩
theorem DBoxF.new (w : World) (d : DevV) (t : TypeId) : DBoxF (w.alloc (.cells #[.string d.name, .int .i64 d.kind, .int .i64 d.addr, .int .u8 d.pool, .slice d.bA d.bn d.bc, .slice d.rA d.rn d.rc, .slice d.tA d.tn d.tc] t)) w.heap.size d :=
  ⟨DBox.new w d t, fun o => by unfold World.frozen?; rw [heap_alloc_new w _]; simp⟩
def BoxS (w : World) (N : Nat) (u v : Value) : Prop := w.cell? ⟨N, 0, none⟩ = some u ∧ w.cell? ⟨N, 1, none⟩ = some v ∧ w.frozen? ⟨N, 0, none⟩ = false ∧ w.frozen? ⟨N, 1, none⟩ = false
theorem BoxS.below {w w' : World} {B N : Nat} {u v : Value} (h : BoxS w N u v) (hB : Below B w w') (hN : N < B) : BoxS w' N u v :=
  ⟨(hB.cell (p := ⟨N, 0, none⟩) hN).trans h.1, (hB.cell (p := ⟨N, 1, none⟩) hN).trans h.2.1, (hB.frozen (p := ⟨N, 0, none⟩) hN).trans h.2.2.1, (hB.frozen (p := ⟨N, 1, none⟩) hN).trans h.2.2.2⟩
theorem BoxS.new (w : World) (u v : Value) (t : TypeId) : BoxS (w.alloc (.cells #[u, v] t)) w.heap.size u v := by
  have hbx := heap_alloc_new w (.cells #[u, v] t)
  refine ⟨by rw [cell_of_row _ _ _ _ _ _ hbx]; rfl, by rw [cell_of_row _ _ _ _ _ _ hbx]; rfl, ?_, ?_⟩ <;> (unfold World.frozen?; rw [hbx]; simp)
structure CP (W : World) (n : NetV) (wr : World) (g : Nat) (V : Value) (A2 : Option Addr) (c2 : Nat) (ds' : List DevV) : Prop where
  bl : Below W.heap.size W wr
  hg : W.heap.size + 1 < g
  sz : g + 1 ≤ wr.heap.size
  rx : BoxS wr (W.heap.size + 1) (.slice none 0 0) (.slice none 0 0)
  gx : BoxS wr g V (.slice A2 n.ln c2)
  own : wr.ownsRow (g + 1) 98 7 V ds'.length (ds'.flatMap DevV.cells)
  lsl : SlAt LinkV.cells 4 wr g A2 n.ln n.ls
  lcap : n.ln ≤ c2 ∧ c2 ≤ maxLen
  dev : ∀ d ∈ ds', DevAt wr wr.heap.size d
  don : ∀ d ∈ ds', DevOn (fun q => g + 1 ≤ q ∧ q < wr.heap.size ∧ V.ownBlock ≠ some q) d
  same : ds'.map DevV.dev = (n.ds.take ds'.length).map DevV.dev
theorem CP.below {W : World} {n : NetV} {wr w' : World} {g : Nat} {V : Value} {A2 : Option Addr} {c2 : Nat} {ds' : List DevV} (h : CP W n wr g V A2 c2 ds') (hb : Below wr.heap.size wr w') : CP W n w' g V A2 c2 ds' := by
  have hs := h.sz
  have hs2 := hb.size
  have hg := h.hg
  have hw := h.bl.size
  exact ⟨h.bl.trans (hb.mono hw), hg, by omega, h.rx.below hb (by omega), h.gx.below hb (by omega), own_below h.own hb, h.lsl.below (hb.mono (by omega)) (Nat.le_refl _), h.lcap,
    fun d hd => (h.dev d hd).below hb hs2, fun d hd => (h.don d hd).weak (fun q hq => ⟨hq.1, by have := hq.2.1; omega, hq.2.2⟩), h.same⟩
theorem CP.next {W : World} {n : NetV} {w8 w9 : World} {g : Nat} {V V' : Value} {A2 : Option Addr} {c2 : Nat} {ds' : List DevV} (h : CP W n w8 g V A2 c2 ds') (d r : DevV) (hd : DevAt w8 w8.heap.size d)
    (hon : DevOn (fun q => g + 1 ≤ q ∧ q < w8.heap.size ∧ V.ownBlock ≠ some q) d) (hr : n.ds[ds'.length]? = some r) (hrd : r.dev = d.dev)
    (hown : w9.ownsRow (g + 1) 98 7 V' (ds'.length + 1) (ds'.flatMap DevV.cells ++ d.cells)) (hg : w8.grownBy w9 V.ownBlock) (hat : V'.ownBlock = V.ownBlock ∨ V'.ownBlock = some w8.heap.size) :
    CP W n (w9.setCell ⟨g, 0, none⟩ V') g V' A2 c2 (ds' ++ [d]) := by
  have hs := h.sz
  have hs2 := hg.size
  have hgg := h.hg
  have hlt := h.own.lt
  have hbB : Below (g + 1) w8 w9 := (Below.refl _ _).grown hg (by omega) (fun q hq => (hlt q hq).1)
  have hbg : Below g w8 (w9.setCell ⟨g, 0, none⟩ V') := (hbB.mono (Nat.le_succ g)).setCell (Nat.le_refl g) _
  have hsz : (w9.setCell ⟨g, 0, none⟩ V').heap.size = w9.heap.size := by simp [World.setCell]
  have hgx := h.gx.below hbB (Nat.lt_succ_self _)
  have hst : StayOn (fun k => some k ≠ V.ownBlock ∧ k ≠ g) w8 (w9.setCell ⟨g, 0, none⟩ V') :=
    ((StayOn.of_grown hg).weak (fun k hk => hk.1)).trans ((StayOn.of_set ⟨g, 0, none⟩ V').weak (fun k hk => hk.2))
  have hon' : ∀ x ∈ ds' ++ [d], DevOn (fun q => g + 1 ≤ q ∧ q < w8.heap.size ∧ V.ownBlock ≠ some q) x := fun x hx => by
    rcases List.mem_append.1 hx with hx | hx
    · exact h.don x hx
    · simp at hx; subst hx; exact hon
  refine ⟨h.bl.trans (hbg.mono (by omega)), hgg, by omega, h.rx.below hbg (by omega), ⟨?_, ?_, ?_, ?_⟩, ?_, h.lsl.below hbg (Nat.le_refl _), h.lcap, fun x hx => ?_, fun x hx => ?_, ?_⟩
  · exact World.cell?_setCell_same _ _ _ hgx.1
  · rw [World.cell?_setCell_other _ _ _ _ (by simp)]; exact hgx.2.1
  · rw [World.frozen?_setCell]; exact hgx.2.2.1
  · rw [World.frozen?_setCell]; exact hgx.2.2.2
  · have : w9.ownsRow (g + 1) 98 7 V' (ds' ++ [d]).length ((ds' ++ [d]).flatMap DevV.cells) := by simpa using hown
    exact own_set (q := ⟨g, 0, none⟩) this (Nat.lt_succ_self g) _
  · rw [hsz]
    refine DevAt.stay ?_ hst ((hon' x hx).weak (fun q hq => ⟨fun e => hq.2.2 e.symm, by have := hq.1; omega⟩)) hs2
    rcases List.mem_append.1 hx with hx | hx
    · exact h.dev x hx
    · simp at hx; subst hx; exact hd
  · rw [hsz]
    refine (hon' x hx).weak (fun q hq => ⟨hq.1, by have := hq.2.1; omega, fun e => ?_⟩)
    rcases hat with e1 | e1
    · rw [e1] at e; exact hq.2.2 e
    · rw [e1] at e; have := hq.2.1; simp only [Option.some.injEq] at e; omega
  · rw [List.map_append, h.same, List.length_append, List.length_singleton, List.take_add_one, hr]
    simp [hrd]
theorem sl_ints {w : World} {B n : Nat} {A : Option Addr} {l : List Int} (h : SlAt i64Cells 1 w B A n l) (ho : ∀ x ∈ l, i64ok x) : IntsAt w B A n l :=
  ⟨h.1, ho, fun h0 => by
    obtain ⟨b, o, e, hb, hg⟩ := h.2 h0
    refine ⟨b, o, e, hb, fun k x hx => ?_⟩
    have := hg k x hx 0 _ rfl
    rwa [Nat.mul_one] at this⟩
def set3 (w : World) (N : Nat) (u v t : Value) : World := ((w.setCell ⟨N, 4, none⟩ u).setCell ⟨N, 5, none⟩ v).setCell ⟨N, 6, none⟩ t
theorem set3_size (w : World) (N : Nat) (u v t : Value) : (set3 w N u v t).heap.size = w.heap.size := by simp [set3, World.setCell]
theorem DBoxF.set3 {w : World} {N : Nat} {d : DevV} (h : DBoxF w N d) (B1 B2 B3 : Option Addr) (n1 n2 n3 e1 e2 e3 : Nat) (b : List Int) (r : List RuleV) (t : List RouteV) :
    DBoxF (set3 w N (.slice B1 n1 e1) (.slice B2 n2 e2) (.slice B3 n3 e3)) N ⟨d.name, d.kind, d.addr, d.pool, B1, n1, e1, b, B2, n2, e2, r, B3, n3, e3, t⟩ := by
  obtain ⟨⟨x0, x1, x2, x3, x4, x5, x6⟩, xf⟩ := h
  have o : ∀ (w : World) (a b : Nat) (u v : Value), b ≠ a → w.cell? ⟨N, b, none⟩ = some u → (w.setCell ⟨N, a, none⟩ v).cell? ⟨N, b, none⟩ = some u := fun w a b u v hne hu => by
    rw [World.cell?_setCell_other _ _ _ _ (by simp [hne])]; exact hu
  have s : ∀ (w : World) (a : Nat) (u v : Value), w.cell? ⟨N, a, none⟩ = some u → (w.setCell ⟨N, a, none⟩ v).cell? ⟨N, a, none⟩ = some v := fun w a u v hu => World.cell?_setCell_same _ _ _ hu
  unfold Go.Proofs.YtohbafigjpoijaaGreat.set3
  refine ⟨⟨?_, ?_, ?_, ?_, ?_, ?_, ?_⟩, fun q => by rw [World.frozen?_setCell, World.frozen?_setCell, World.frozen?_setCell]; exact xf q⟩
  · exact o _ _ _ _ _ (by omega) (o _ _ _ _ _ (by omega) (o _ _ _ _ _ (by omega) x0))
  · exact o _ _ _ _ _ (by omega) (o _ _ _ _ _ (by omega) (o _ _ _ _ _ (by omega) x1))
  · exact o _ _ _ _ _ (by omega) (o _ _ _ _ _ (by omega) (o _ _ _ _ _ (by omega) x2))
  · exact o _ _ _ _ _ (by omega) (o _ _ _ _ _ (by omega) (o _ _ _ _ _ (by omega) x3))
  · exact o _ _ _ _ _ (by omega) (o _ _ _ _ _ (by omega) (s _ _ _ _ x4))
  · exact o _ _ _ _ _ (by omega) (s _ _ _ _ (o _ _ _ _ _ (by omega) x5))
  · exact s _ _ _ _ (o _ _ _ _ _ (by omega) (o _ _ _ _ _ (by omega) x6))
theorem set3_stay (w : World) (N : Nat) (u v t : Value) : StayOn (fun q => q ≠ N) w (set3 w N u v t) :=
  ((StayOn.of_set ⟨N, 4, none⟩ u).trans (StayOn.of_set ⟨N, 5, none⟩ v)).trans (StayOn.of_set ⟨N, 6, none⟩ t)
theorem set3_below {w w' : World} {B N : Nat} (h : Below B w w') (hN : B ≤ N) (u v t : Value) : Below B w (set3 w' N u v t) :=
  ((h.setCell (by exact hN) _).setCell (by exact hN) _).setCell (by exact hN) _
theorem dev_copied {w4 w5 w6 w7 : World} {N B : Nat} {r : DevV} {B1 B2 B3 : Option Addr} {e1 e2 e3 : Nat} (hz : w4.heap.size = N + 1) (h5 : Below w4.heap.size w4 w5) (h6 : Below w5.heap.size w5 w6) (h7 : Below w6.heap.size w6 w7) (hr : DevAt w4 B r)
    (o1 : w5.ownsRow w4.heap.size 3 1 (.slice B1 r.bn e1) r.bn (r.bs.flatMap i64Cells)) (o2 : w6.ownsRow w5.heap.size 122 5 (.slice B2 r.rn e2) r.rn (r.rs.flatMap RuleV.cells)) (o3 : w7.ownsRow w6.heap.size 226 3 (.slice B3 r.tn e3) r.tn (r.ts.flatMap RouteV.cells))
    (u v t : Value) :
    DevAt (set3 w7 N u v t) w7.heap.size ⟨r.name, r.kind, r.addr, r.pool, B1, r.bn, e1, r.bs, B2, r.rn, e2, r.rs, B3, r.tn, e3, r.ts⟩ ∧
    DevOn (fun q => N < q ∧ q < w7.heap.size) ⟨r.name, r.kind, r.addr, r.pool, B1, r.bn, e1, r.bs, B2, r.rn, e2, r.rs, B3, r.tn, e3, r.ts⟩ := by
  have s5 := h5.size
  have s6 := h6.size
  have s7 := h7.size
  obtain ⟨A1, k1, f1, c1, sl1, g1⟩ := SlAt.of_own i64Cells_len o1 hr.bs.1
  obtain ⟨A2, k2, f2, c2, sl2, g2⟩ := SlAt.of_own RuleV.len o2 hr.rs.1
  obtain ⟨A3, k3, f3, c3, sl3, g3⟩ := SlAt.of_own RouteV.len o3 hr.ts.1
  cases f1
  cases f2
  cases f3
  have l1 : ∀ a, B1 = some a → w4.heap.size ≤ a.block ∧ a.block < w5.heap.size := fun a ha => o1.lt a.block (by rw [ha]; rfl)
  have l2 : ∀ a, B2 = some a → w5.heap.size ≤ a.block ∧ a.block < w6.heap.size := fun a ha => o2.lt a.block (by rw [ha]; rfl)
  have l3 : ∀ a, B3 = some a → w6.heap.size ≤ a.block ∧ a.block < w7.heap.size := fun a ha => o3.lt a.block (by rw [ha]; rfl)
  have st7 : StayOn (fun q => q ≠ N) w7 (set3 w7 N u v t) := set3_stay w7 N u v t
  have st6 : StayOn (fun q => q ≠ N ∧ q < w6.heap.size) w6 (set3 w7 N u v t) := ((StayOn.of_below h7).weak (fun q hq => hq.2)).trans (st7.weak (fun q hq => hq.1))
  have st5 : StayOn (fun q => q ≠ N ∧ q < w5.heap.size) w5 (set3 w7 N u v t) := ((StayOn.of_below h6).weak (fun q hq => hq.2)).trans (st6.weak (fun q hq => ⟨hq.1, by omega⟩))
  refine ⟨⟨hr.nm, hr.kd, hr.ad, hr.pl, ?_, ?_, ?_, hr.tok, ⟨c1, own_cap o1⟩, ⟨c2, own_cap o2⟩, ⟨c3, own_cap o3⟩⟩, ⟨fun a ha => ?_, fun a ha => ?_, fun a ha => ?_⟩⟩
  · exact sl_ints (sl1.stay st5 (fun a ha => by have := l1 a ha; omega) (by omega)) hr.bs.2.1
  · exact (sl2.stay st6 (fun a ha => by have := l2 a ha; omega) (by omega)).rules hr.rs.2.1
  · exact sl3.stay st7 (fun a ha => by have := l3 a ha; omega) (by omega)
  · have := l1 a ha; omega
  · have := l2 a ha; omega
  · have := l3 a ha; omega
end Go.Proofs.YtohbafigjpoijaaGreat
namespace Go.Proofs.YtohbafigjpoijaaGreat
open Go.Maps Go.RowKit
instance P4.decEq : DecidableEq P4 := fun a b =>
  if h : a.src = b.src ∧ a.dst = b.dst ∧ a.sport = b.sport ∧ a.dport = b.dport then isTrue (by
    obtain ⟨a0, a1, a2, a3⟩ := a
    obtain ⟨b0, b1, b2, b3⟩ := b
    obtain ⟨h1, h2, h3, h4⟩ := h
    simp only at h1 h2 h3 h4
    subst h1 h2 h3 h4
    rfl) else isFalse (fun e => h (by subst e; exact ⟨rfl, rfl, rfl, rfl⟩))
structure MemS where
  F : OfK → Bool
  O : PoK → Option (Int × Int)
  B : OfK → Option Int
def MemS.empty : MemS := ⟨fun _ => false, fun _ => none, fun _ => none⟩
inductive Know where
  | nothing
  | flow (k : OfK)
  | owner (k : PoK) (o : Int × Int)
  | back (k : OfK) (b : Int)
def MemS.learn (M : MemS) : Know → MemS
  | .nothing => M
  | .flow k => { M with F := fun x => if x = k then true else M.F x }
  | .owner k o => { M with O := fun x => if x = k then some o else M.O x }
  | .back k b => { M with B := fun x => if x = k then some b else M.B x }
inductive Gone where
  | flow (k : OfK)
  | owner (k : PoK)
  | back (k : OfK)
def MemS.drop (M : MemS) : Gone → MemS
  | .flow k => { M with F := fun x => if x = k then false else M.F x }
  | .owner k => { M with O := fun x => if x = k then none else M.O x }
  | .back k => { M with B := fun x => if x = k then none else M.B x }
def ownV (o : Int × Int) : Value := .agg #[.int .i64 o.1, .int .i64 o.2]
def flowsV (M : MemS) : OfK → Option Value := fun k => if M.F k then some (.bool true) else none
def ownersV (M : MemS) : PoK → Option Value := fun k => (M.O k).map ownV
def backsV (M : MemS) : OfK → Option Value := fun k => (M.B k).map fun b => .int .i64 b
theorem flowsV_learn (M : MemS) (k : OfK) : putM (flowsV M) k (.bool true) = flowsV (M.learn (.flow k)) := by
  funext x
  simp only [putM, flowsV, MemS.learn]
  by_cases h : x = k <;> simp [h]
theorem ownersV_learn (M : MemS) (k : PoK) (o : Int × Int) : putM (ownersV M) k (ownV o) = ownersV (M.learn (.owner k o)) := by
  funext x
  simp only [putM, ownersV, MemS.learn]
  by_cases h : x = k <;> simp [h]
theorem backsV_learn (M : MemS) (k : OfK) (b : Int) : putM (backsV M) k (.int .i64 b) = backsV (M.learn (.back k b)) := by
  funext x
  simp only [putM, backsV, MemS.learn]
  by_cases h : x = k <;> simp [h]
theorem flowsV_drop (M : MemS) (k : OfK) : cutM (flowsV M) k = flowsV (M.drop (.flow k)) := by
  funext x
  simp only [cutM, flowsV, MemS.drop]
  by_cases h : x = k <;> simp [h]
theorem ownersV_drop (M : MemS) (k : PoK) : cutM (ownersV M) k = ownersV (M.drop (.owner k)) := by
  funext x
  simp only [cutM, ownersV, MemS.drop]
  by_cases h : x = k <;> simp [h]
theorem backsV_drop (M : MemS) (k : OfK) : cutM (backsV M) k = backsV (M.drop (.back k)) := by
  funext x
  simp only [cutM, backsV, MemS.drop]
  by_cases h : x = k <;> simp [h]
structure Near (p : Nat → Prop) (B : Nat) (w w' : World) : Prop where
  os : w'.os = w.os
  tape : w'.tape = w.tape
  output : w'.output = w.output
  size : w.heap.size ≤ w'.heap.size
  block : ∀ k, k < B → ¬ p k → w'.heap[k]? = w.heap[k]?
section
variable {p q : Nat → Prop} {B B' : Nat} {w w' w'' : World}
theorem Near.refl (p : Nat → Prop) (B : Nat) (w : World) : Near p B w w := ⟨rfl, rfl, rfl, Nat.le_refl _, fun _ _ _ => rfl⟩
theorem Near.trans (h : Near p B w w') (k : Near p B w' w'') : Near p B w w'' :=
  ⟨k.os.trans h.os, k.tape.trans h.tape, k.output.trans h.output, Nat.le_trans h.size k.size, fun i hi hp => (k.block i hi hp).trans (h.block i hi hp)⟩
theorem Near.mono (h : Near p B w w') (hB : B' ≤ B) : Near p B' w w' := ⟨h.os, h.tape, h.output, h.size, fun k hk hp => h.block k (by omega) hp⟩
theorem Near.weak (h : Near p B w w') (hq : ∀ k, p k → q k) : Near q B w w' := ⟨h.os, h.tape, h.output, h.size, fun k hk hp => h.block k hk (fun e => hp (hq k e))⟩
theorem Near.of_below (h : Below B w w') : Near p B w w' := ⟨h.os, h.tape, h.output, h.size, fun k hk _ => h.block k hk⟩
theorem Near.below (h : Near p B w w') (hB : B' ≤ B) (hp : ∀ k, p k → B' ≤ k) : Below B' w w' :=
  ⟨h.os, h.tape, h.output, h.size, fun k hk => h.block k (by omega) (fun e => by have := hp k e; omega)⟩
theorem Near.of_turned {b : Nat} (h : w.mapTurned w' b) (hb : p b) : Near p w.heap.size w w' :=
  ⟨h.grown.os, h.grown.tape, h.grown.output, h.grown.size, fun k hk hp => h.grown.block k hk (fun e => hp (by cases e; exact hb))⟩
theorem Near.cell (h : Near p B w w') {a : Addr} (ha : a.block < B) (hp : ¬ p a.block) : w'.cell? a = w.cell? a := World.cell?_of_block (w := w) (h.block a.block ha hp)
theorem Near.frozen (h : Near p B w w') {a : Addr} (ha : a.block < B) (hp : ¬ p a.block) : w'.frozen? a = w.frozen? a := World.frozen?_of_block (w := w) (h.block a.block ha hp)
end
def Is3 (f o b : Nat) (k : Nat) : Prop := k = f ∨ k = o ∨ k = b
structure MemAt (w : World) (g : Nat) (n : NetV) (f o b : Nat) (M : MemS) (k : Nat) : Prop where
  c0 : w.cell? ⟨g, 0, none⟩ = some (.slice n.dA n.dn n.dc)
  c1 : w.cell? ⟨g, 1, none⟩ = some (.slice n.lA n.ln n.lc)
  c2 : w.cell? ⟨g, 2, none⟩ = some (.map (some f))
  c3 : w.cell? ⟨g, 3, none⟩ = some (.map (some o))
  c4 : w.cell? ⟨g, 4, none⟩ = some (.map (some b))
  net : NetAt w w.heap.size n
  mf : MapIs Tryz.prog 196 ofVal ofDom w f (flowsV M)
  mo : MapIs Tryz.prog 199 poVal poDom w o (ownersV M)
  mb : MapIs Tryz.prog 196 ofVal ofDom w b (backsV M)
  nfo : f ≠ o
  nfb : f ≠ b
  nob : o ≠ b
  lf : ∃ L : List OfK, L.length ≤ k ∧ ∀ a, M.F a = true → a ∈ L
  lo : ∃ L : List PoK, L.length ≤ k ∧ ∀ a, (M.O a).isSome = true → a ∈ L
  lb : ∃ L : List OfK, L.length ≤ k ∧ ∀ a, (M.B a).isSome = true → a ∈ L
  oo : ∀ a v, M.O a = some v → i64ok v.1 ∧ i64ok v.2
  ob : ∀ a v, M.B a = some v → i64ok v
section
variable {w w' : World} {g : Nat} {n : NetV} {f o b : Nat} {M : MemS} {k : Nat}
theorem MemAt.glt (h : MemAt w g n f o b M k) : g < w.heap.size := cell_lt h.c0
theorem MemAt.flt (h : MemAt w g n f o b M k) : f < w.heap.size := h.mf.lt
theorem MemAt.olt (h : MemAt w g n f o b M k) : o < w.heap.size := h.mo.lt
theorem MemAt.blt (h : MemAt w g n f o b M k) : b < w.heap.size := h.mb.lt
theorem MemAt.below (h : MemAt w g n f o b M k) (hb : Below w.heap.size w w') : MemAt w' g n f o b M k := by
  have e : ∀ j, w'.cell? ⟨g, j, none⟩ = w.cell? ⟨g, j, none⟩ := fun j => hb.cell (p := ⟨g, j, none⟩) h.glt
  exact ⟨(e _).trans h.c0, (e _).trans h.c1, (e _).trans h.c2, (e _).trans h.c3, (e _).trans h.c4, h.net.below hb hb.size, h.mf.below hb h.flt, h.mo.below hb h.olt, h.mb.below hb h.blt,
    h.nfo, h.nfb, h.nob, h.lf, h.lo, h.lb, h.oo, h.ob⟩
theorem MemAt.more (h : MemAt w g n f o b M k) {k' : Nat} (hk : k ≤ k') : MemAt w g n f o b M k' :=
  ⟨h.c0, h.c1, h.c2, h.c3, h.c4, h.net, h.mf, h.mo, h.mb, h.nfo, h.nfb, h.nob, h.lf.imp fun _ x => ⟨by have := x.1; omega, x.2⟩, h.lo.imp fun _ x => ⟨by have := x.1; omega, x.2⟩, h.lb.imp fun _ x => ⟨by have := x.1; omega, x.2⟩, h.oo, h.ob⟩
theorem map_no_cell {α : Type} {P : Program} {kt : TypeId} {key : α → Value} {dom : α → Prop} {w : World} {b : Nat} {M : α → Option Value} (h : MapIs P kt key dom w b M) {a : Addr} {v : Value} (hc : w.cell? a = some v) : a.block ≠ b := fun e => by
  obtain ⟨es, c, hb⟩ := h.block
  subst e
  simp [World.cell?, hb] at hc
theorem MemAt.not3 (h : MemAt w g n f o b M k) {a : Addr} {v : Value} (hc : w.cell? a = some v) : ¬ Is3 f o b a.block := fun e => by
  rcases e with e | e | e
  · exact map_no_cell h.mf hc e
  · exact map_no_cell h.mo hc e
  · exact map_no_cell h.mb hc e
theorem MemAt.cell (h : MemAt w g n f o b M k) {B : Nat} (hn : Near (Is3 f o b) B w w') {a : Addr} {v : Value} (hc : w.cell? a = some v) (ha : a.block < B) : w'.cell? a = some v := (hn.cell ha (h.not3 hc)).trans hc
theorem MemAt.flow (h : MemAt w g n f o b M k) (hk : k < 1000000) (a : OfK) (ha : ofDom a) : ∃ w', (Instr.mapUpdate 185 (.map (some f)) (ofVal a) (.bool true)).run Tryz.prog w = .ok () w' ∧ MemAt w' g n f o b (M.learn (.flow a)) (k + 1) ∧ Near (Is3 f o b) w.heap.size w w' := by
  obtain ⟨L, hL, hall⟩ := h.lf
  obtain ⟨w', hrun, r1, r2⟩ := h.mf.storeA ofKeys L (by unfold maxLen; omega) (fun x _ hx => hall x (by simp only [flowsV] at hx; split at hx <;> simp_all)) Tryz.underlying185 ha (.bool true)
  rw [flowsV_learn] at r1
  have st := StayOn.of_turned r2
  refine ⟨w', hrun, ⟨st _ _ trivial h.c0, st _ _ trivial h.c1, st _ _ trivial h.c2, st _ _ trivial h.c3, st _ _ trivial h.c4, ?_, r1, h.mo.turned r2 h.nfo.symm, h.mb.turned r2 h.nfb.symm, h.nfo, h.nfb, h.nob, ⟨a :: L, by simp; omega, fun x hx => ?_⟩, h.lo.imp fun _ x => ⟨by have := x.1; omega, x.2⟩, h.lb.imp fun _ x => ⟨by have := x.1; omega, x.2⟩, h.oo, h.ob⟩, Near.of_turned r2 (.inl rfl)⟩
  · exact h.net.stay st (fun _ _ => trivial) (fun _ _ => trivial) (fun _ _ => ⟨fun _ _ => trivial, fun _ _ => trivial, fun _ _ => trivial⟩) r2.grown.size
  · simp only [MemS.learn] at hx
    by_cases e : x = a
    · simp [e]
    · rw [if_neg e] at hx; exact List.mem_cons_of_mem _ (hall x hx)
theorem MemAt.owner (h : MemAt w g n f o b M k) (hk : k < 1000000) (a : PoK) (ha : poDom a) (u : Int × Int) (hu : i64ok u.1 ∧ i64ok u.2) : ∃ w', (Instr.mapUpdate 186 (.map (some o)) (poVal a) (ownV u)).run Tryz.prog w = .ok () w' ∧ MemAt w' g n f o b (M.learn (.owner a u)) (k + 1) ∧ Near (Is3 f o b) w.heap.size w w' := by
  obtain ⟨L, hL, hall⟩ := h.lo
  obtain ⟨w', hrun, r1, r2⟩ := h.mo.storeA poKeys L (by unfold maxLen; omega) (fun x _ hx => hall x (by simpa [ownersV] using hx)) Tryz.underlying186 ha (ownV u)
  rw [ownersV_learn] at r1
  have st := StayOn.of_turned r2
  refine ⟨w', hrun, ⟨st _ _ trivial h.c0, st _ _ trivial h.c1, st _ _ trivial h.c2, st _ _ trivial h.c3, st _ _ trivial h.c4, ?_, h.mf.turned r2 h.nfo, r1, h.mb.turned r2 h.nob.symm, h.nfo, h.nfb, h.nob, h.lf.imp fun _ x => ⟨by have := x.1; omega, x.2⟩, ⟨a :: L, by simp; omega, fun x hx => ?_⟩, h.lb.imp fun _ x => ⟨by have := x.1; omega, x.2⟩, fun x v hx => ?_, h.ob⟩, Near.of_turned r2 (.inr (.inl rfl))⟩
  · exact h.net.stay st (fun _ _ => trivial) (fun _ _ => trivial) (fun _ _ => ⟨fun _ _ => trivial, fun _ _ => trivial, fun _ _ => trivial⟩) r2.grown.size
  · simp only [MemS.learn] at hx
    by_cases e : x = a
    · simp [e]
    · rw [if_neg e] at hx; exact List.mem_cons_of_mem _ (hall x hx)
  · simp only [MemS.learn] at hx
    by_cases e : x = a
    · rw [if_pos e] at hx; cases hx; exact hu
    · rw [if_neg e] at hx; exact h.oo x v hx
theorem MemAt.back (h : MemAt w g n f o b M k) (hk : k < 1000000) (a : OfK) (ha : ofDom a) (u : Int) (hu : i64ok u) : ∃ w', (Instr.mapUpdate 187 (.map (some b)) (ofVal a) (.int .i64 u)).run Tryz.prog w = .ok () w' ∧ MemAt w' g n f o b (M.learn (.back a u)) (k + 1) ∧ Near (Is3 f o b) w.heap.size w w' := by
  obtain ⟨L, hL, hall⟩ := h.lb
  obtain ⟨w', hrun, r1, r2⟩ := h.mb.storeA ofKeys L (by unfold maxLen; omega) (fun x _ hx => hall x (by simpa [backsV] using hx)) Tryz.underlying187 ha (.int .i64 u)
  rw [backsV_learn] at r1
  have st := StayOn.of_turned r2
  refine ⟨w', hrun, ⟨st _ _ trivial h.c0, st _ _ trivial h.c1, st _ _ trivial h.c2, st _ _ trivial h.c3, st _ _ trivial h.c4, ?_, h.mf.turned r2 h.nfb, h.mo.turned r2 h.nob, r1, h.nfo, h.nfb, h.nob, h.lf.imp fun _ x => ⟨by have := x.1; omega, x.2⟩, h.lo.imp fun _ x => ⟨by have := x.1; omega, x.2⟩, ⟨a :: L, by simp; omega, fun x hx => ?_⟩, h.oo, fun x v hx => ?_⟩, Near.of_turned r2 (.inr (.inr rfl))⟩
  · exact h.net.stay st (fun _ _ => trivial) (fun _ _ => trivial) (fun _ _ => ⟨fun _ _ => trivial, fun _ _ => trivial, fun _ _ => trivial⟩) r2.grown.size
  · simp only [MemS.learn] at hx
    by_cases e : x = a
    · simp [e]
    · rw [if_neg e] at hx; exact List.mem_cons_of_mem _ (hall x hx)
  · simp only [MemS.learn] at hx
    by_cases e : x = a
    · rw [if_pos e] at hx; cases hx; exact hu
    · rw [if_neg e] at hx; exact h.ob x v hx
theorem MemAt.lookF (h : MemAt w g n f o b M k) (a : OfK) (ha : ofDom a) : (Instr.lookup 185 (.map (some f)) (ofVal a) false).run Tryz.prog w = .ok (.bool (M.F a)) w := by
  have := (h.mf.lookA ofKeys Tryz.underlying185 (z := .bool false) (by kernel_rfl) ha).2
  rw [this]
  simp only [flowsV]
  cases M.F a <;> rfl
theorem MemAt.lookO (h : MemAt w g n f o b M k) (a : PoK) (ha : poDom a) : (Instr.lookup 186 (.map (some o)) (poVal a) true).run Tryz.prog w = .ok (.tuple #[ownV ((M.O a).getD (0, 0)), .bool (M.O a).isSome]) w := by
  have := (h.mo.lookA poKeys Tryz.underlying186 (z := ownV (0, 0)) (by kernel_rfl) ha).1
  rw [this]
  simp only [ownersV]
  cases M.O a <;> rfl
theorem MemAt.lookB (h : MemAt w g n f o b M k) (a : OfK) (ha : ofDom a) : (Instr.lookup 187 (.map (some b)) (ofVal a) true).run Tryz.prog w = .ok (.tuple #[.int .i64 ((M.B a).getD 0), .bool (M.B a).isSome]) w := by
  have := (h.mb.lookA ofKeys Tryz.underlying187 (z := .int .i64 0) (by kernel_rfl) ha).1
  rw [this]
  simp only [backsV]
  cases M.B a <;> rfl
end
def BoxV (w : World) (N : Nat) (vs : Array Value) : Prop := (∀ (j : Nat) (v : Value), vs[j]? = some v → w.cell? ⟨N, j, none⟩ = some v) ∧ ∀ o, w.frozen? ⟨N, o, none⟩ = false
theorem BoxV.of_block {w : World} {N : Nat} {vs : Array Value} {t : TypeId} (h : w.heap[N]? = some (.cells vs t)) : BoxV w N vs :=
  ⟨fun j v hv => by rw [cell_of_row _ _ _ _ _ _ h]; exact hv, fun o => by unfold World.frozen?; simp only [h]; simp⟩
theorem BoxV.new (w : World) (vs : Array Value) (t : TypeId) : BoxV (w.alloc (.cells vs t)) w.heap.size vs := BoxV.of_block (heap_alloc_new w _)
theorem BoxV.below {w w' : World} {B N : Nat} {vs : Array Value} (h : BoxV w N vs) (hB : Below B w w') (hN : N < B) : BoxV w' N vs :=
  ⟨fun j v hv => (hB.cell (p := ⟨N, j, none⟩) hN).trans (h.1 j v hv), fun o => (hB.frozen (p := ⟨N, o, none⟩) hN).trans (h.2 o)⟩
theorem BoxV.set {w : World} {N : Nat} {vs : Array Value} (h : BoxV w N vs) (j : Nat) (v : Value) : BoxV (w.setCell ⟨N, j, none⟩ v) N (vs.setIfInBounds j v) := by
  refine ⟨fun i u hu => ?_, fun o => by rw [World.frozen?_setCell]; exact h.2 o⟩
  by_cases e : j = i
  · subst e
    rw [Array.getElem?_setIfInBounds_self] at hu
    split at hu
    · rename_i hj
      cases hu
      exact World.cell?_setCell_same _ _ _ (h.1 j _ (Array.getElem?_eq_getElem hj))
    · cases hu
  · rw [Array.getElem?_setIfInBounds_ne e] at hu
    rw [World.cell?_setCell_other _ _ _ _ (by simp [Ne.symm e])]
    exact h.1 i u hu
theorem BoxV.far {w : World} {N : Nat} {vs : Array Value} (h : BoxV w N vs) (a : Addr) (v : Value) (hne : a.block ≠ N) : BoxV (w.setCell a v) N vs := by
  refine ⟨fun i u hu => ?_, fun o => by rw [World.frozen?_setCell]; exact h.2 o⟩
  rw [World.cell?_setCell_other _ _ _ _ (by intro e; apply hne; rw [e])]
  exact h.1 i u hu
theorem BoxV.there {w : World} {N : Nat} {vs : Array Value} (h : BoxV w N vs) {n : Nat} (hn : n ≤ vs.size) : w.there N 0 n := fun j hj =>
  ⟨by rw [Nat.zero_add, h.1 j _ (Array.getElem?_eq_getElem (by omega))]; rfl, h.2 _⟩
theorem BoxV.all {w : World} {N : Nat} {vs : Array Value} (h : BoxV w N vs) (cs : List Value) (hl : cs.length = vs.size) : BoxV (w.setCells N 0 cs) N cs.toArray :=
  ⟨fun j v hv => by
    have := World.rangeAt_setCells_same w N 0 cs (h.there (by omega)) j v (by simpa using hv)
    rwa [Nat.zero_add] at this, fun o => by rw [World.frozen?_setCells]; exact h.2 o⟩
theorem below_setCells {B N : Nat} {a : World} (hN : B ≤ N) : ∀ (cs : List Value) (o : Nat) (w : World), Below B a w → Below B a (w.setCells N o cs)
  | [], _, _, h => h
  | v :: r, o, w, h => below_setCells hN r (o + 1) _ (h.setCell (by exact hN) v)
theorem boxesB : ∀ (l : List (Array Value × TypeId)) (W : World) (i : Nat) c t, l[i]? = some (c, t) → (l.foldl (fun w x => w.alloc (.cells x.1 x.2)) W).heap[W.heap.size + i]? = some (.cells c t) := by
  intro l
  induction l with
  | nil => intro W i c t h; simp at h
  | cons x l ih =>
    intro W i c t h
    have hz : (W.alloc (.cells x.1 x.2)).heap.size = W.heap.size + 1 := by simp
    simp only [List.foldl_cons]
    cases i with
    | zero =>
      cases h
      obtain ⟨_, hb, _⟩ := boxesL l (W.alloc (.cells c t)) (Below.refl _ _)
      rw [hz] at hb
      rw [Nat.add_zero, hb.block _ (Nat.lt_succ_self _)]
      exact heap_alloc_new W _
    | succ i =>
      have := ih (W.alloc (.cells x.1 x.2)) i c t (by simpa using h)
      rw [hz] at this
      rw [show W.heap.size + (i + 1) = W.heap.size + 1 + i by omega]
      exact this
theorem boxesV (l : List (Array Value × TypeId)) (W : World) {W' : World} {B : Nat} (hb : Below B (l.foldl (fun w x => w.alloc (.cells x.1 x.2)) W) W') :
    (∀ (i : Nat) c t, l[i]? = some (c, t) → W.heap.size + i < B → BoxV W' (W.heap.size + i) c) ∧ (W.heap.size ≤ B → Below W.heap.size W W') := by
  refine ⟨fun i c t hi hB => BoxV.of_block (t := t) ((hb.block _ hB).trans (boxesB l W i c t hi)), fun hB => ?_⟩
  obtain ⟨_, h2, _⟩ := boxesL l W (Below.refl _ _)
  exact h2.trans (hb.mono hB)
end Go.Proofs.YtohbafigjpoijaaGreat
