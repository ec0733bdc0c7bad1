/- Inner calls that make functions, one behind the other, whether there is room or not; put, Exists, Swap. -/
import Derived.Test.YtoanimmlpfchjaaWithW
set_option linter.unusedVariables false
set_option linter.unusedSimpArgs false
namespace Go.Proofs.Ytoanimmlpfchjaa
open Go.RowKit Go.Maps Bdd

/-- A number of a function, if there was room. -/
def WF (A : St) (r : Nat) (F : Bdd.Fn) : Prop := r < A.ns.length ∧ (A.full = false → den A.ns r = F)
theorem WF.ext {A A' : St} {r : Nat} {F : Bdd.Fn} (h : WF A r F) (i : Inv A) (he : Ext A A') : WF A' r F :=
  ⟨Nat.lt_of_lt_of_le h.1 he.len, fun hf => (he.den i h.1).trans (h.2 (he.notFull hf))⟩
theorem WF.of {A : St} {r : Nat} {F : Bdd.Fn} (h : IsF A r F) : WF A r F := ⟨h.1, fun _ => h.2⟩

structure MS (w : World) (B g nb kb ib : Nat) (A : St) (c : Nat) (w1 : World) (nb1 cap1 : Nat) (A1 : St) (K1 T1 : Tri → Option Value) : Prop where
  ext : Ext A A1
  cnt : A1.len ≤ A.len + c
  ar : ArenaAt w1 B g nb1 kb ib cap1 A1 K1 T1
  nbc : nb1 = nb ∨ w.heap.size ≤ nb1
  fm : Frm (Fp g nb kb ib) w w1

/-- What an inner call leaves, met in such a place. -/
def MQ (w : World) (B g nb kb ib : Nat) (A : St) (c : Nat) (A1 : St) (F : Bdd.Fn) (e : Ending) (w2 : World) : Prop :=
  ∃ (r nb2 cap2 : Nat) (A2 : St) (K2 T2 : Tri → Option Value), e = .returned (.int .i64 (r : Int)) ∧ MS w B g nb kb ib A c w2 nb2 cap2 A2 K2 T2 ∧ Ext A1 A2 ∧ WF A2 r F

section
variable {w : World} {B g nb kb ib : Nat} {A : St} {c : Nat} {w1 w2 : World} {nb1 cap1 : Nat} {A1 : St} {K1 T1 : Tri → Option Value}

theorem MS.inv (h : MS w B g nb kb ib A c w1 nb1 cap1 A1 K1 T1) : Inv A1 := h.ar.inv
theorem MS.below (h : MS w B g nb kb ib A c w1 nb1 cap1 A1 K1 T1) (hb : RowKit.Below w1.heap.size w1 w2) : MS w B g nb kb ib A c w2 nb1 cap1 A1 K1 T1 :=
  ⟨h.ext, h.cnt, h.ar.below hb, h.nbc, h.fm.trans (Frm.of_below hb) (fun _ _ h => h)⟩
theorem MS.more {c' : Nat} (h : MS w B g nb kb ib A c w1 nb1 cap1 A1 K1 T1) (hc : c ≤ c') : MS w B g nb kb ib A c' w1 nb1 cap1 A1 K1 T1 := ⟨h.ext, Nat.le_trans h.cnt (by omega), h.ar, h.nbc, h.fm⟩
theorem MS.refl {cap : Nat} {K T : Tri → Option Value} (h : ArenaAt w B g nb kb ib cap A K T) : MS w B g nb kb ib A 0 w nb cap A K T := ⟨Ext.refl h.inv, by omega, h, .inl rfl, Frm.refl _ _⟩
theorem MS.base {w0 : World} (hb : RowKit.Below w0.heap.size w0 w) (h : MS w B g nb kb ib A c w1 nb1 cap1 A1 K1 T1) : MS w0 B g nb kb ib A c w1 nb1 cap1 A1 K1 T1 :=
  ⟨h.ext, h.cnt, h.ar, h.nbc.imp id (fun h => by have := hb.size; omega), (Frm.of_below hb).trans h.fm (fun _ _ h => h)⟩

theorem MS.step {F G : Bdd.Fn} {k : Nat} {e : Ending} (hlt : nb < w.heap.size) (h : MS w B g nb kb ib A c w1 nb1 cap1 A1 K1 T1) (hi : IteP w1 B g nb1 kb ib A1 F k e w2) (hF : Bdd.Below A.vars F) (hG : A1.full = false → F = G) : MQ w B g nb kb ib A (c + 2 ^ A.vars) A1 G e w2 := by
  obtain ⟨r, nb2, cap2, A2, K2, T2, he, hr, har, hnb, hfm⟩ := hi
  have hs := h.fm.size
  have hg := hr.grows h.inv (K := A.vars) hF
  have hc := h.cnt
  refine ⟨r, nb2, cap2, A2, K2, T2, he, ⟨h.ext.trans hr.ext, by omega, har, ?_, h.fm.trans hfm (fun i hi hS => ?_)⟩, hr.ext, hr.lt, fun hf => (hr.eq hf).trans (hG (hr.ext.notFull hf))⟩
  · rcases hnb with e5 | e5
    · rw [e5]; exact h.nbc
    · exact .inr (by omega)
  · rcases hS with e | e | e | e
    · exact .inl e
    · rcases h.nbc with e' | e'
      · exact .inr (.inl (e.trans e'))
      · omega
    · exact .inr (.inr (.inl e))
    · exact .inr (.inr (.inr e))

theorem ite_ms (hlt : nb < w.heap.size) (h : MS w B g nb kb ib A c w1 nb1 cap1 A1 K1 T1) {f a b : Nat} {F G H : Bdd.Fn} (hf : WF A1 f F) (ha : WF A1 a G) (hb : WF A1 b H) :
    Calls Try.prog 90 #[.pointer (some ⟨g, 0, none⟩), .int .i64 f, .int .i64 a, .int .i64 b] w1 (MQ w B g nb kb ib A (c + 2 ^ A.vars) A1 (iteF F G H)) := by
  refine (ite_walk _ w1 B g nb1 kb ib cap1 A1 K1 T1 h.ar f a b hf.1 ha.1 hb.1 (Nat.lt_succ_self _)).mono fun e w2 hi => ?_
  have ok := h.inv.ok
  rw [h.ext.vars] at ok
  exact h.step hlt hi (iteF_below (den_below ok _ hf.1) (den_below ok _ ha.1) (den_below ok _ hb.1)) (fun hnf => by rw [hf.2 hnf, ha.2 hnf, hb.2 hnf])

theorem restr_below {K : Nat} {F : Bdd.Fn} (h : Bdd.Below K F) (i : Nat) (b : Bool) : Bdd.Below K (restr F i b) := fun x y hxy => h _ _ (fun u hu => by
  simp only [upd]; split
  · rfl
  · exact hxy u hu)
end

set_option maxRecDepth 100000 in
set_option maxHeartbeats 4000000 in
theorem put_walk {w : World} {B g nb kb ib cap : Nat} {A : St} {K T : Tri → Option Value} (h : ArenaAt w B g nb kb ib cap A K T) (f i : Nat) (b : Bool) (hf : f < A.ns.length) (hi : i < A.vars) :
    Calls Try.prog 91 #[.pointer (some ⟨g, 0, none⟩), .int .i64 f, .int .i64 i, .bool b] w (IteP w B g nb kb ib A (restr (den A.ns f) i b) (var A.ns f)) := by
  obtain ⟨l1, l2, l3, l4, _⟩ := h.lts
  have hb0 : RowKit.Below w.heap.size w (w.alloc (.map #[] 0)) := (RowKit.Below.refl _ _).alloc (Nat.le_refl _) _
  have hsb : ¬ Fp g nb kb ib w.heap.size := fun hS => by rcases hS with e | e | e | e <;> omega
  have HC := hide (with_walk i b (f + 1) _ B g nb kb ib w.heap.size cap A K T (fun _ => none) (h.below hb0) (MapIs.made w) (fun f x hx => by cases hx) hsb f hf hi (Nat.lt_succ_self _))
  have HB0 := hide hb0
  have hmm := @run_makeMap Try.prog
  clear h hb0 hsb hf hi
  go_enter Try.func91, Try.ntmps91
  go_wp2_with fail
  refine HC.out.mono ?_
  rintro e w2 ⟨r, nb', cap', A', K', S', rfl, hr, hws⟩
  have HF := hide (show IteP w B g nb kb ib A (restr (den A.ns f) i b) (var A.ns f) (.returned (.int .i64 (r : Int))) w2 from
    ⟨r, nb', cap', A', K', T, rfl, hr, hws.ar, hws.nbc.imp id (fun h => by have := HB0.out.size; omega), (Frm.of_below HB0.out).trans hws.fm (fun k hk hS => by
      rcases hS with hS | e
      · exact hS
      · omega)⟩)
  clear hr hws
  go_wp2
  go_ret
  exact HF.out

section
variable {w : World} {B g nb kb ib : Nat} {A : St} {c : Nat} {w1 w2 : World} {nb1 cap1 : Nat} {A1 : St} {K1 T1 : Tri → Option Value}

theorem put_ms (hlt : nb < w.heap.size) (h : MS w B g nb kb ib A c w1 nb1 cap1 A1 K1 T1) {f : Nat} {F : Bdd.Fn} (hf : WF A1 f F) (i : Nat) (b : Bool) (hi : i < A.vars) :
    Calls Try.prog 91 #[.pointer (some ⟨g, 0, none⟩), .int .i64 f, .int .i64 i, .bool b] w1 (MQ w B g nb kb ib A (c + 2 ^ A.vars) A1 (restr F i b)) := by
  refine (put_walk h.ar f i b hf.1 (by rw [h.ext.vars]; exact hi)).mono fun e w2 hp => ?_
  have ok := h.inv.ok
  rw [h.ext.vars] at ok
  exact h.step hlt hp (restr_below (den_below ok _ hf.1) i b) (fun hnf => by rw [hf.2 hnf])

theorem var_ms (hlt : nb < w.heap.size) (h : MS w B g nb kb ib A c w1 nb1 cap1 A1 K1 T1) (i : Nat) (hi : i < A.vars) :
    Calls Try.prog 89 #[.pointer (some ⟨g, 0, none⟩), .int .i64 i, .int .i64 0, .int .i64 1] w1 (MQ w B g nb kb ib A (c + 2 ^ A.vars) A1 (fun x => x i)) := by
  have ok := h.inv.ok
  have hv : A1.vars = A.vars := h.ext.vars
  have htwo := ok.two
  have hv0 := var_zero ok
  have hv1 := var_one ok
  refine (made_walk h.ar i 0 1 (by omega) (by omega) (by omega) (by omega) (by omega)).mono ?_
  rintro e w2 ⟨r, nb2, cap2, A2, K2, rfl, hmade, har, hnb, hfm⟩
  have hr : Res A1 A2 r (fun x => x i) i := res_node h.inv (by omega) (fun x y hxy => hxy i (Nat.le_refl _)) (L := fun _ => false) (H := fun _ => true) (by funext x; simp [upd]) (by funext x; simp [upd])
      (res_there h.inv (by simp only [St.len]; omega) (by rw [hv0]; omega) (fun _ => by funext x; simp [den_zero])) (res_there h.inv (by simp only [St.len]; omega) (by rw [hv1]; omega) (fun _ => by funext x; simp [den_one])) hmade
  exact h.step hlt ⟨r, nb2, cap2, A2, K2, T1, rfl, hr, har, hnb, hfm⟩ (fun x y hxy => hxy i (by omega)) (fun _ => rfl)
end

/-! ### what the arena's calls leave -/
def OpQ (w : World) (B g nb kb ib : Nat) (A : St) (F : Bdd.Fn) (c : Nat) (e : Ending) (W' : World) : Prop :=
  ∃ (r nb2 cap2 : Nat) (A2 : St) (K2 T2 : Tri → Option Value), MS w B g nb kb ib A c W' nb2 cap2 (doneSt A2) K2 T2 ∧ Inv A2 ∧ WF A2 r F ∧ (A2.full = true → e = .returned (.tuple #[.int .i64 0, .int .i64 6])) ∧ (A2.full = false → e = .returned (.tuple #[.int .i64 (r : Int), .int .i64 0]))

theorem doneSt_id {A : St} (h : A.full = false) : doneSt A = A := by cases A; simp_all [doneSt]

theorem OpP.opQ {w : World} {B g nb kb ib : Nat} {A : St} {F : Bdd.Fn} {k : Nat} {e : Ending} {W' : World} (h : OpP w B g nb kb ib A F k e W') (hi : Inv A) (hA : A.full = false) (hF : Bdd.Below A.vars F) : OpQ w B g nb kb ib A F (2 ^ A.vars) e W' := by
  obtain ⟨r, nb2, cap2, A2, K2, T2, hr, h1, h2, ha, hn, hf⟩ := h
  have hg := hr.grows hi hF
  exact ⟨r, nb2, cap2, A2, K2, T2, ⟨⟨hr.ext.vars, hr.ext.most, hr.ext.ns, fun h => (by rw [hA] at h; cases h), ha.inv⟩, (by show A2.len ≤ _; omega), ha, hn, hf⟩, hr.ext.inv, ⟨hr.lt, hr.eq⟩, h1, h2⟩

theorem MS.done {w : World} {B g nb kb ib : Nat} {A : St} {c : Nat} {w1 w2 : World} {nb1 cap1 r : Nat} {A1 : St} {K1 T1 : Tri → Option Value} {F : Bdd.Fn} {e : Ending} (hlt : nb < w.heap.size) (hA : A.full = false) (h : MS w B g nb kb ib A c w1 nb1 cap1 A1 K1 T1) (hw : WF A1 r F)
    (h1 : A1.full = true → e = .returned (.tuple #[.int .i64 0, .int .i64 6])) (h2 : A1.full = false → e = .returned (.tuple #[.int .i64 (r : Int), .int .i64 0])) (ha : ArenaAt w2 B g nb1 kb ib cap1 (doneSt A1) K1 T1) (hf : Frm (Fp g nb1 kb ib) w1 w2) : OpQ w B g nb kb ib A F c e w2 := by
  have hs := h.fm.size
  refine ⟨r, nb1, cap1, A1, K1, T1, ⟨⟨h.ext.vars, h.ext.most, h.ext.ns, fun h => (by rw [hA] at h; cases h), ha.inv⟩, h.cnt, ha, h.nbc, h.fm.trans hf (fun i hi hS => ?_)⟩, h.inv, hw, h1, h2⟩
  rcases hS with e | e | e | e
  · exact .inl e
  · rcases h.nbc with e' | e'
    · exact .inr (.inl (e.trans e'))
    · omega
  · exact .inr (.inr (.inl e))
  · exact .inr (.inr (.inr e))

/-- There is room: it tells the function. -/
theorem OpQ.room {w : World} {B g nb kb ib : Nat} {A : St} {F : Bdd.Fn} {c : Nat} {e : Ending} {W' : World} (h : OpQ w B g nb kb ib A F c e W') (hr : A.len + c < A.most) :
    ∃ (r nb2 cap2 : Nat) (A2 : St) (K2 T2 : Tri → Option Value), e = .returned (.tuple #[.int .i64 (r : Int), .int .i64 0]) ∧ MS w B g nb kb ib A c W' nb2 cap2 A2 K2 T2 ∧ A2.full = false ∧ IsF A2 r F := by
  obtain ⟨r, nb2, cap2, A2, K2, T2, hm, hi, hw, h1, h2⟩ := h
  have hnf : A2.full = false := by
    cases hf : A2.full
    · rfl
    · have e1 := hi.full hf
      have e2 : A2.len ≤ A.len + c := hm.cnt
      have e3 : A2.most = A.most := hm.ext.most
      omega
  rw [doneSt_id hnf] at hm
  exact ⟨r, nb2, cap2, A2, K2, T2, h2 hnf, hm, hnf, hw.1, hw.2 hnf⟩
/-- .. or there is none. -/
theorem OpQ.cases {w : World} {B g nb kb ib : Nat} {A : St} {F : Bdd.Fn} {c : Nat} {e : Ending} {W' : World} (h : OpQ w B g nb kb ib A F c e W') :
    ∃ (nb2 cap2 : Nat) (A2 : St) (K2 T2 : Tri → Option Value), MS w B g nb kb ib A c W' nb2 cap2 A2 K2 T2 ∧ A2.full = false ∧ ((∃ r : Nat, e = .returned (.tuple #[.int .i64 (r : Int), .int .i64 0]) ∧ IsF A2 r F) ∨ (e = .returned (.tuple #[.int .i64 0, .int .i64 6]) ∧ A2.len = A2.most)) := by
  obtain ⟨r, nb2, cap2, A2, K2, T2, hm, hi, hw, h1, h2⟩ := h
  cases hf : A2.full
  · rw [doneSt_id hf] at hm
    exact ⟨nb2, cap2, A2, K2, T2, hm, hf, .inl ⟨r, h2 hf, hw.1, hw.2 hf⟩⟩
  · exact ⟨nb2, cap2, doneSt A2, K2, T2, hm, rfl, .inr ⟨h1 hf, hi.full hf⟩⟩
end Go.Proofs.Ytoanimmlpfchjaa
