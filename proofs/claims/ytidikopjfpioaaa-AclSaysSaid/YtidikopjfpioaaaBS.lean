/- Calls that make functions, one behind the other. -/
import Derived.Test.YtidikopjfpioaaaMatchBuilds
set_option linter.unusedVariables false
set_option linter.unusedSimpArgs false
namespace Go.Proofs.Ytidikopjfpioaaa
open Go.RowKit Go.Maps Bdd

theorem BP.mono {w : World} {B g nb kb ib : Nat} {A : St} {F : Bdd.Fn} {P Q : Bdd.Fn → Prop} {e : Ending} {W' : World} (h : BP w B g nb kb ib A F P e W') (hPQ : ∀ G, P G → Q G) : BP w B g nb kb ib A F Q e W' := by
  obtain ⟨nb2, cap2, A2, K2, T2, h1, h2, h3, h4, h5, h6, h7⟩ := h
  exact ⟨nb2, cap2, A2, K2, T2, h1, h2, fun j a b => hPQ _ (h3 j a b), h4, h5, h6, h7⟩

/-- What stands between two such calls. -/
structure BS (w : World) (B g nb kb ib : Nat) (A : St) (P : Bdd.Fn → Prop) (w1 : World) (nb1 cap1 : Nat) (A1 : St) (K1 T1 : Tri → Option Value) : Prop where
  ext : Ext A A1
  nf : A1.full = false
  nw : ∀ j, A.len ≤ j → j < A1.len → P (den A1.ns j)
  ar : ArenaAt w1 B g nb1 kb ib cap1 A1 K1 T1
  nbc : nb1 = nb ∨ w.heap.size ≤ nb1
  fm : Frm (Fp g nb kb ib) w w1

/-- A number of a function. -/
def IsF (A : St) (r : Nat) (F : Bdd.Fn) : Prop := r < A.ns.length ∧ den A.ns r = F
theorem IsF.ext {A A' : St} {r : Nat} {F : Bdd.Fn} (h : IsF A r F) (i : Inv A) (he : Ext A A') : IsF A' r F := ⟨Nat.lt_of_lt_of_le h.1 he.len, (he.den i h.1).trans h.2⟩
theorem IsF.zero {A : St} (i : Inv A) : IsF A 0 (fun _ => false) := ⟨by have := i.ok.two; omega, den_zero⟩
theorem IsF.one {A : St} (i : Inv A) : IsF A 1 (fun _ => true) := ⟨by have := i.ok.two; omega, den_one⟩

theorem BS.refl {w : World} {B g nb kb ib cap : Nat} {A : St} {K T : Tri → Option Value} (h : ArenaAt w B g nb kb ib cap A K T) (hA : A.full = false) (P : Bdd.Fn → Prop) : BS w B g nb kb ib A P w nb cap A K T :=
  ⟨Ext.refl h.inv, hA, fun j h1 h2 => by omega, h, .inl rfl, Frm.refl _ _⟩
theorem BS.inv {w : World} {B g nb kb ib : Nat} {A : St} {P : Bdd.Fn → Prop} {w1 : World} {nb1 cap1 : Nat} {A1 : St} {K1 T1 : Tri → Option Value} (h : BS w B g nb kb ib A P w1 nb1 cap1 A1 K1 T1) : Inv A1 := h.ar.inv
theorem BS.below {w : World} {B g nb kb ib : Nat} {A : St} {P : Bdd.Fn → Prop} {w1 w2 : World} {nb1 cap1 : Nat} {A1 : St} {K1 T1 : Tri → Option Value} (h : BS w B g nb kb ib A P w1 nb1 cap1 A1 K1 T1) (hb : RowKit.Below w1.heap.size w1 w2) : BS w B g nb kb ib A P w2 nb1 cap1 A1 K1 T1 :=
  ⟨h.ext, h.nf, h.nw, h.ar.below hb, h.nbc, h.fm.trans (Frm.of_below hb) (fun _ _ h => h)⟩

def BRes (A2 : St) (F : Bdd.Fn) (e : Ending) : Prop := (∃ r : Nat, e = .returned (.tuple #[.int .i64 (r : Int), .int .i64 0]) ∧ IsF A2 r F) ∨ (e = .returned (.tuple #[.int .i64 0, .int .i64 6]) ∧ A2.len = A2.most)

theorem BS.step {w : World} {B g nb kb ib cap : Nat} {A : St} {K T : Tri → Option Value} {P : Bdd.Fn → Prop} {w1 w2 : World} {nb1 cap1 : Nat} {A1 : St} {K1 T1 : Tri → Option Value} {F : Bdd.Fn} {e : Ending} (h0 : ArenaAt w B g nb kb ib cap A K T)
    (h : BS w B g nb kb ib A P w1 nb1 cap1 A1 K1 T1) (hb : BP w1 B g nb1 kb ib A1 F P e w2) : ∃ (nb2 cap2 : Nat) (A2 : St) (K2 T2 : Tri → Option Value), BS w B g nb kb ib A P w2 nb2 cap2 A2 K2 T2 ∧ Ext A1 A2 ∧ BRes A2 F e := by
  obtain ⟨nb2, cap2, A2, K2, T2, h1, h2, h3, h4, h5, h6, h7⟩ := hb
  obtain ⟨l1, l2, l3, l4, _⟩ := h0.lts
  have hs := h.fm.size
  refine ⟨nb2, cap2, A2, K2, T2, ⟨h.ext.trans h1, h2, fun j a b => ?_, h4, ?_, h.fm.trans h6 (fun i hi hS => ?_)⟩, h1, ?_⟩
  · rcases Nat.lt_or_ge j A1.len with hl | hl
    · rw [h1.den h.inv hl]; exact h.nw j a hl
    · exact h3 j hl b
  · rcases h5 with e5 | e5
    · rw [e5]; exact h.nbc
    · exact .inr (by omega)
  · rcases hS with e | e | e | e
    · exact .inl e
    · rcases h.nbc with e' | e'
      · exact .inr (.inl (e.trans e'))
      · omega
    · exact .inr (.inr (.inl e))
    · exact .inr (.inr (.inr e))
  · rcases h7 with ⟨r, a, b, c⟩ | h7
    · exact .inl ⟨r, a, b, c⟩
    · exact .inr h7

theorem BS.out {w : World} {B g nb kb ib : Nat} {A : St} {P : Bdd.Fn → Prop} {w1 : World} {nb1 cap1 : Nat} {A1 : St} {K1 T1 : Tri → Option Value} {F : Bdd.Fn} {e : Ending}
    (h : BS w B g nb kb ib A P w1 nb1 cap1 A1 K1 T1) (hr : BRes A1 F e) : BP w B g nb kb ib A F P e w1 := by
  refine ⟨nb1, cap1, A1, K1, T1, h.ext, h.nf, h.nw, h.ar, h.nbc, h.fm, ?_⟩
  rcases hr with ⟨r, a, b, c⟩ | hr
  · exact .inl ⟨r, a, b, c⟩
  · exact .inr hr

theorem BS.belowB {w : World} {B g nb kb ib cap : Nat} {A : St} {K T : Tri → Option Value} {P : Bdd.Fn → Prop} {w1 : World} {nb1 cap1 : Nat} {A1 : St} {K1 T1 : Tri → Option Value} (h0 : ArenaAt w B g nb kb ib cap A K T) (h : BS w B g nb kb ib A P w1 nb1 cap1 A1 K1 T1) :
    RowKit.Below B w w1 := h0.frmBelow h.fm

/-- Ite, And of functions that are there. -/
theorem opIte_bp {w : World} {B g nb kb ib cap : Nat} {A : St} {K T : Tri → Option Value} (h : ArenaAt w B g nb kb ib cap A K T) (hA : A.full = false) {f a b : Nat} {F G H : Bdd.Fn} (hf : IsF A f F) (ha : IsF A a G) (hb : IsF A b H) {P : Bdd.Fn → Prop} (hP : ∀ G', Cof (iteF F G H) G' → P G') :
    Calls Try.prog 66 #[.pointer (some ⟨g, 0, none⟩), .int .i64 f, .int .i64 a, .int .i64 b] w (BP w B g nb kb ib A (iteF F G H) P) := by
  refine (opIte_walk h f a b hf.1 ha.1 hb.1).mono fun e w' ho => ?_
  rw [hf.2, ha.2, hb.2] at ho
  exact ho.bp hA hP
theorem opAnd_bp {w : World} {B g nb kb ib cap : Nat} {A : St} {K T : Tri → Option Value} (h : ArenaAt w B g nb kb ib cap A K T) (hA : A.full = false) {f a : Nat} {F G : Bdd.Fn} (hf : IsF A f F) (ha : IsF A a G) {P : Bdd.Fn → Prop} (hP : ∀ G', Cof (iteF F G (fun _ => false)) G' → P G') :
    Calls Try.prog 29 #[.pointer (some ⟨g, 0, none⟩), .int .i64 f, .int .i64 a] w (BP w B g nb kb ib A (iteF F G (fun _ => false)) P) := by
  refine (opAnd_walk h f a hf.1 ha.1).mono fun e w' ho => ?_
  rw [hf.2, ha.2, den_zero] at ho
  exact ho.bp hA hP

set_option maxRecDepth 100000 in
set_option maxHeartbeats 4000000 in
theorem opNot_bp {w : World} {B g nb kb ib cap : Nat} {A : St} {K T : Tri → Option Value} (h : ArenaAt w B g nb kb ib cap A K T) (hA : A.full = false) {f : Nat} {F : Bdd.Fn} (hf : IsF A f F) {P : Bdd.Fn → Prop} (hP : ∀ G', Cof (iteF F (fun _ => false) (fun _ => true)) G' → P G') :
    Calls Try.prog 77 #[.pointer (some ⟨g, 0, none⟩), .int .i64 f] w (BP w B g nb kb ib A (iteF F (fun _ => false) (fun _ => true)) P) := by
  have HC : Hid (Calls Try.prog 66 #[.pointer (some ⟨g, 0, none⟩), .int .i64 f, .int .i64 0, .int .i64 1] w (BP w B g nb kb ib A (iteF F (fun _ => false) (fun _ => true)) P)) := hide (opIte_bp h hA hf (IsF.zero h.inv) (IsF.one h.inv) hP)
  clear h hf hP hA
  go_enter Try.func77, Try.ntmps77
  go_wp2_with fail
  refine HC.out.mono ?_
  rintro e wc hop
  have HF := hide hop
  obtain ⟨_, _, _, _, _, _, _, _, _, _, _, hres⟩ := hop
  rcases hres with ⟨r, rfl, _⟩ | ⟨rfl, _⟩
  all_goals
    go_wp2
    go_ret2
    exact HF.out

set_option maxRecDepth 100000 in
set_option maxHeartbeats 4000000 in
theorem opOr_bp {w : World} {B g nb kb ib cap : Nat} {A : St} {K T : Tri → Option Value} (h : ArenaAt w B g nb kb ib cap A K T) (hA : A.full = false) {f a : Nat} {F G : Bdd.Fn} (hf : IsF A f F) (ha : IsF A a G) {P : Bdd.Fn → Prop} (hP : ∀ G', Cof (iteF F (fun _ => true) G) G' → P G') :
    Calls Try.prog 78 #[.pointer (some ⟨g, 0, none⟩), .int .i64 f, .int .i64 a] w (BP w B g nb kb ib A (iteF F (fun _ => true) G) P) := by
  have HC : Hid (Calls Try.prog 66 #[.pointer (some ⟨g, 0, none⟩), .int .i64 f, .int .i64 1, .int .i64 a] w (BP w B g nb kb ib A (iteF F (fun _ => true) G) P)) := hide (opIte_bp h hA hf (IsF.one h.inv) ha hP)
  clear h hf ha hP hA
  go_enter Try.func78, Try.ntmps78
  go_wp2_with fail
  refine HC.out.mono ?_
  rintro e wc hop
  have HF := hide hop
  obtain ⟨_, _, _, _, _, _, _, _, _, _, _, hres⟩ := hop
  rcases hres with ⟨r, rfl, _⟩ | ⟨rfl, _⟩
  all_goals
    go_wp2
    go_ret2
    exact HF.out
end Go.Proofs.Ytidikopjfpioaaa
