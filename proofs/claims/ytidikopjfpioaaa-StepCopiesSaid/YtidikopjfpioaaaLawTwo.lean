/- Two memories beside each other; an act of a law's list. -/
import Derived.Test.YtidikopjfpioaaaLawFire
import Derived.Test.YtidikopjfpioaaaStepCopyM
import Derived.Test.YtidikopjfpioaaaOpens
set_option linter.unusedVariables false
set_option linter.unusedSimpArgs false
namespace Go.Proofs.Ytidikopjfpioaaa
open Go.RowKit Go.Maps

/-- A memory stands while another one's maps turn. -/
theorem MemAt.beside {w w' : World} {g : Nat} {n : NetV} {f o b : Nat} {M : MS} {k : Nat} {g2 : Nat} {n2 : NetV} {f2 o2 b2 : Nat} {M2 : MS} {k2 : Nat} (h : MemAt w g n f o b M k) (h2 : MemAt w g2 n2 f2 o2 b2 M2 k2) (hn : Near (Is3 f2 o2 b2) w.heap.size w w') (hd : ∀ j, Is3 f o b j → ¬ Is3 f2 o2 b2 j) : MemAt w' g n f o b M k := by
  have st := h2.stay hn
  exact ⟨st _ _ trivial h.c0, st _ _ trivial h.c1, st _ _ trivial h.c2, st _ _ trivial h.c3, st _ _ trivial h.c4, h.net.stay st (fun _ _ => trivial) (fun _ _ => trivial) (fun _ _ => ⟨fun _ _ => trivial, fun _ _ => trivial, fun _ _ => trivial⟩) hn.size,
    h.mf.same (hn.block f h.flt (hd f (Or.inl rfl))), h.mo.same (hn.block o h.olt (hd o (Or.inr (Or.inl rfl)))), h.mb.same (hn.block b h.blt (hd b (Or.inr (Or.inr rfl)))), h.nfo, h.nfb, h.nob, h.lf, h.lo, h.lb, h.oo, h.ob⟩
theorem BX.beside {W w w' : World} {L : List (Nat × Array Value)} {p : Nat → Prop} (h : BX W L w) (hn : Near p w.heap.size w w') (ha : ∀ x ∈ L, ¬ p x.1) (hlo : ∀ j, p j → W.heap.size ≤ j) : BX W L w' :=
  ⟨((Near.of_below (p := p) h.bl).trans (hn.mono h.bl.size)).below (Nat.le_refl _) hlo, fun x hx => ⟨(h.bx x hx).1.near hn (h.bx x hx).2 (ha x hx), Nat.lt_of_lt_of_le (h.bx x hx).2 hn.size⟩⟩

structure F2 (W : World) (L : List (Nat × Array Value)) (ga : Nat) (na : NetV) (fa oa ba gb : Nat) (nb : NetV) (fb ob bb : Nat) (MA MB : MS) (k : Nat) (w : World) : Prop where
  box : BX W L w
  a : MemAt w ga na fa oa ba MA k
  b : MemAt w gb nb fb ob bb MB k
  d : ∀ j, Is3 fa oa ba j → ¬ Is3 fb ob bb j
  la : ∀ j, Is3 fa oa ba j → W.heap.size ≤ j
  lb : ∀ j, Is3 fb ob bb j → W.heap.size ≤ j
  pa : ∀ x ∈ L, ¬ Is3 fa oa ba x.1
  pb : ∀ x ∈ L, ¬ Is3 fb ob bb x.1
section
variable {W w w' : World} {L : List (Nat × Array Value)} {ga : Nat} {na : NetV} {fa oa ba gb : Nat} {nb : NetV} {fb ob bb : Nat} {MA MB MA' MB' : MS} {k k' : Nat}
theorem F2.below (h : F2 W L ga na fa oa ba gb nb fb ob bb MA MB k w) (hb : Below w.heap.size w w') : F2 W L ga na fa oa ba gb nb fb ob bb MA MB k w' := ⟨h.box.below hb, h.a.below hb, h.b.below hb, h.d, h.la, h.lb, h.pa, h.pb⟩
theorem F2.up (h : F2 W L ga na fa oa ba gb nb fb ob bb MA MB k w) (hk : k ≤ k') : F2 W L ga na fa oa ba gb nb fb ob bb MA MB k' w := ⟨h.box, h.a.more hk, h.b.more hk, h.d, h.la, h.lb, h.pa, h.pb⟩
theorem F2.less {x : Nat × Array Value} (h : F2 W (x :: L) ga na fa oa ba gb nb fb ob bb MA MB k w) : F2 W L ga na fa oa ba gb nb fb ob bb MA MB k w := ⟨h.box.less, h.a, h.b, h.d, h.la, h.lb, fun y hy => h.pa y (List.mem_cons_of_mem _ hy), fun y hy => h.pb y (List.mem_cons_of_mem _ hy)⟩
theorem F2.al (h : F2 W L ga na fa oa ba gb nb fb ob bb MA MB k w) (vs : Array Value) (t : TypeId) : F2 W ((w.heap.size, vs) :: L) ga na fa oa ba gb nb fb ob bb MA MB k (w.alloc (.cells vs t)) := by
  have q := h.below ((Below.refl _ _).alloc (Nat.le_refl _) (.cells vs t))
  have e : ∀ j, Is3 fa oa ba j ∨ Is3 fb ob bb j → j < w.heap.size := fun j hj => by
    have h1 := h.a.flt
    have h2 := h.a.olt
    have h3 := h.a.blt
    have h4 := h.b.flt
    have h5 := h.b.olt
    have h6 := h.b.blt
    rcases hj with (e | e | e) | (e | e | e) <;> omega
  refine ⟨⟨q.box.bl, fun x hx => ?_⟩, q.a, q.b, h.d, h.la, h.lb, fun x hx => ?_, fun x hx => ?_⟩
  · rcases List.mem_cons.1 hx with rfl | hx
    · exact ⟨BoxV.new _ _ _, by simp⟩
    · exact q.box.bx x hx
  · rcases List.mem_cons.1 hx with rfl | hx
    · exact fun hj => Nat.lt_irrefl _ (e _ (Or.inl hj))
    · exact h.pa x hx
  · rcases List.mem_cons.1 hx with rfl | hx
    · exact fun hj => Nat.lt_irrefl _ (e _ (Or.inr hj))
    · exact h.pb x hx
theorem F2.stepA (h : F2 W L ga na fa oa ba gb nb fb ob bb MA MB k w) (hm : MemAt w' ga na fa oa ba MA' k') (hn : Near (Is3 fa oa ba) w.heap.size w w') (hk : k ≤ k') : F2 W L ga na fa oa ba gb nb fb ob bb MA' MB k' w' :=
  ⟨h.box.beside hn h.pa h.la, hm, (h.b.beside h.a hn (fun j h1 h2 => h.d j h2 h1)).more hk, h.d, h.la, h.lb, h.pa, h.pb⟩
theorem F2.stepB (h : F2 W L ga na fa oa ba gb nb fb ob bb MA MB k w) (hm : MemAt w' gb nb fb ob bb MB' k') (hn : Near (Is3 fb ob bb) w.heap.size w w') (hk : k ≤ k') : F2 W L ga na fa oa ba gb nb fb ob bb MA MB' k' w' :=
  ⟨h.box.beside hn h.pb h.lb, (h.a.beside h.b hn h.d).more hk, hm, h.d, h.la, h.lb, h.pa, h.pb⟩
/-- A third one turns. -/
theorem F2.third (h : F2 W L ga na fa oa ba gb nb fb ob bb MA MB k w) {gc : Nat} {nc : NetV} {fc oc bc : Nat} {MC : MS} {kc : Nat} (hc : MemAt w gc nc fc oc bc MC kc) (hn : Near (Is3 fc oc bc) w.heap.size w w') (hlo : ∀ j, Is3 fc oc bc j → W.heap.size ≤ j) (hL : ∀ x ∈ L, ¬ Is3 fc oc bc x.1) (ha : ∀ j, Is3 fa oa ba j → ¬ Is3 fc oc bc j) (hb : ∀ j, Is3 fb ob bb j → ¬ Is3 fc oc bc j) : F2 W L ga na fa oa ba gb nb fb ob bb MA MB k w' :=
  ⟨h.box.beside hn hL hlo, h.a.beside hc hn ha, h.b.beside hc hn hb, h.d, h.la, h.lb, h.pa, h.pb⟩
theorem F2.new {w0 w1 : World} {L : List (Nat × Array Value)} (hx : BX W L w0) (ha : MemAt w1 ga na fa oa ba MA k) (hla : w0.heap.size ≤ fa ∧ w0.heap.size ≤ oa ∧ w0.heap.size ≤ ba) (hb1 : Below w0.heap.size w0 w1)
    (hb : MemAt w gb nb fb ob bb MB k) (hlb : w1.heap.size ≤ fb ∧ w1.heap.size ≤ ob ∧ w1.heap.size ≤ bb) (hb2 : Below w1.heap.size w1 w) : F2 W L ga na fa oa ba gb nb fb ob bb MA MB k w := by
  have s1 := hx.bl.size
  have s2 := hb1.size
  have a1 := ha.flt
  have a2 := ha.olt
  have a3 := ha.blt
  refine ⟨(hx.below hb1).below hb2, ha.below hb2, hb, fun j h1 h2 => ?_, fun j h1 => ?_, fun j h1 => ?_, fun x hx1 h1 => ?_, fun x hx1 h1 => ?_⟩
  · rcases h1 with e | e | e <;> rcases h2 with e2 | e2 | e2 <;> omega
  · rcases h1 with e | e | e <;> omega
  · rcases h1 with e | e | e <;> omega
  · have := (hx.bx x hx1).2
    rcases h1 with e | e | e <;> omega
  · have := (hx.bx x hx1).2
    rcases h1 with e | e | e <;> omega
theorem F2.lts (h : F2 W L ga na fa oa ba gb nb fb ob bb MA MB k w) : ∀ j, Is3 fa oa ba j ∨ Is3 fb ob bb j → j < w.heap.size := fun j hj => by
  have h1 := h.a.flt
  have h2 := h.a.olt
  have h3 := h.a.blt
  have h4 := h.b.flt
  have h5 := h.b.olt
  have h6 := h.b.blt
  rcases hj with (e | e | e) | (e | e | e) <;> omega
end
theorem cells8 {w : World} {N : Nat} {a b c d e f g h : Int} (q : BoxV w N #[.int .i64 a, .int .i64 b, .int .i64 c, .int .i64 d, .int .i64 e, .int .i64 f, .int .i64 g, .int .i64 h]) : w.cell? ⟨N, 0, none⟩ = some (.int .i64 a) ∧ w.cell? ⟨N, 1, none⟩ = some (.int .i64 b) ∧ w.cell? ⟨N, 2, none⟩ = some (.int .i64 c) ∧ w.cell? ⟨N, 3, none⟩ = some (.int .i64 d) ∧ w.cell? ⟨N, 4, none⟩ = some (.int .i64 e) ∧ w.cell? ⟨N, 5, none⟩ = some (.int .i64 f) ∧ w.cell? ⟨N, 6, none⟩ = some (.int .i64 g) ∧ w.cell? ⟨N, 7, none⟩ = some (.int .i64 h) :=
  ⟨q.1 0 _ rfl, q.1 1 _ rfl, q.1 2 _ rfl, q.1 3 _ rfl, q.1 4 _ rfl, q.1 5 _ rfl, q.1 6 _ rfl, q.1 7 _ rfl⟩
def ActV.arr (x : ActV) : Array Value := #[.int .i64 x.kind, .int .i64 x.dev, .int .i64 x.port, .int .i64 x.p.src, .int .i64 x.p.dst, .int .i64 x.p.sport, .int .i64 x.p.dport, .int .i64 x.ch]
/-- What an act does to a memory. -/
def actS (ds : List Dev) (ls : List LinkV) (M : MS) (x : ActV) : MS := if x.kind = 1 then (forgetS ds M x.dev x.p x.ch).2 else M.learn (handS ds ls M x.dev x.port x.p x.ch).kn

set_option maxRecDepth 100000 in
set_option maxHeartbeats 4000000 in
theorem act_walk (g : Nat) (n : NetV) (f o b : Nat) (M : MS) (k : Nat) (x : ActV) (W : World) (hM : MemAt W g n f o b M k) (hE : netE n.devs n.ls = 0) (hx : x.ok) (hk : k < 1000000) :
    Calls Try.prog 57 #[.pointer (some ⟨g, 0, none⟩), .agg #[.int .i64 x.kind, .int .i64 x.dev, .int .i64 x.port, .int .i64 x.p.src, .int .i64 x.p.dst, .int .i64 x.p.sport, .int .i64 x.p.dport, .int .i64 x.ch]] W fun e W' =>
      e = .returned (.tuple #[]) ∧ MemAt W' g n f o b (actS n.devs n.ls M x) (k + 1) ∧ Near (Is3 f o b) W.heap.size W W' := by
  have hdn : n.dn ≤ 10 := by rw [← devs_len hM.net]; exact (netE_ok hE).dl
  have hb1 : Below W.heap.size W (W.alloc (.cells #[.int .i64 x.kind, .int .i64 x.dev, .int .i64 x.port, .int .i64 x.p.src, .int .i64 x.p.dst, .int .i64 x.p.sport, .int .i64 x.p.dport, .int .i64 x.ch] 114)) := (Below.refl _ _).alloc (Nat.le_refl _) _
  obtain ⟨c0, c1, c2, c3, c4, c5, c6, c7⟩ := cells8 (BoxV.new W #[.int .i64 x.kind, .int .i64 x.dev, .int .i64 x.port, .int .i64 x.p.src, .int .i64 x.p.dst, .int .i64 x.p.sport, .int .i64 x.p.dport, .int .i64 x.ch] 114)
  have HM1 := hide (hM.below hb1)
  have HB := hide hb1
  have HFO := hide (fun (w' : World) (h : MemAt w' g n f o b M k) => forget_walk g n f o b M k x.dev x.p x.ch w' h hdn hx.d hx.p hx.c)
  have HHD := hide (fun (w' : World) (h : MemAt w' g n f o b M k) => hand_walk g n f o b M k x.dev x.port x.p x.ch w' h hE hx.d hx.y hx.p hx.c hk)
  clear hM hE hx hdn hb1
  by_cases h1 : x.kind = 1
  · have e : actS n.devs n.ls M x = (forgetS n.devs M x.dev x.p x.ch).2 := if_pos h1
    rw [e]
    clear e
    have e1 : (x.kind == 1) = true := by simpa using h1
    clear h1
    go_enter Try.func57, Try.ntmps57
    go_wp2_with fail
    generalize World.alloc W _ = W1 at *
    refine (HFO.out W1 HM1.out).mono ?_
    rintro e w2 ⟨rfl, hm, hn⟩
    have HM2 := hide hm
    have HN2 := hide hn
    clear hm hn c0 c1 c2 c3 c4 c5 c6 c7
    go_wp2
    go_end0
    exact ⟨rfl, HM2.out.more (Nat.le_succ _), (Near.of_below HB.out).trans (HN2.out.mono HB.out.size)⟩
  · have e : actS n.devs n.ls M x = M.learn (handS n.devs n.ls M x.dev x.port x.p x.ch).kn := if_neg h1
    rw [e]
    clear e
    have e1 : (x.kind == 1) = false := by simpa using h1
    clear h1
    go_enter Try.func57, Try.ntmps57
    go_wp2_with fail
    generalize World.alloc W _ = W1 at *
    refine (HHD.out W1 HM1.out).mono ?_
    rintro e w2 ⟨rfl, hm, hn⟩
    have HM2 := hide hm
    have HN2 := hide hn
    clear hm hn c0 c1 c2 c3 c4 c5 c6 c7
    go_wp2
    go_end0
    exact ⟨rfl, HM2.out, (Near.of_below HB.out).trans (HN2.out.mono HB.out.size)⟩
end Go.Proofs.Ytidikopjfpioaaa
