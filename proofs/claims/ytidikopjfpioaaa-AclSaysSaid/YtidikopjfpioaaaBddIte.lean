/- The arena's inner calls: ite. -/
import Derived.Test.YtidikopjfpioaaaBddMade
import Derived.WalkLawsBesides
set_option linter.unusedVariables false
set_option linter.unusedSimpArgs false
namespace Go.Proofs.Ytidikopjfpioaaa
open Go.RowKit Go.Maps Bdd

def min3 (a b c : Nat) : Nat := min (min a b) c

/-- What a call that makes functions leaves. -/
def IteP (w : World) (B g nb kb ib : Nat) (A : St) (F : Bdd.Fn) (k : Nat) (e : Ending) (W' : World) : Prop :=
  ∃ (r nb' cap' : Nat) (A' : St) (K' T' : Tri → Option Value), e = .returned (.int .i64 (r : Int)) ∧ Res A A' r F k ∧ ArenaAt W' B g nb' kb ib cap' A' K' T' ∧ (nb' = nb ∨ w.heap.size ≤ nb') ∧ Frm (Fp g nb kb ib) w W'

theorem iteP_there {w W' : World} {B g nb kb ib cap : Nat} {A : St} {K T : Tri → Option Value} {F : Bdd.Fn} {k r : Nat} (h : ArenaAt w B g nb kb ib cap A K T) (hb : RowKit.Below w.heap.size w W') (hr : r < A.ns.length) (hk : k ≤ var A.ns r) (hd : A.full = false → den A.ns r = F) :
    IteP w B g nb kb ib A F k (.returned (.int .i64 (r : Int))) W' :=
  ⟨r, nb, cap, A, K, T, rfl, res_there h.inv hr hk hd, h.below hb, .inl rfl, Frm.of_below hb⟩

theorem iteF_indep {F G H : Bdd.Fn} {k : Nat} (hF : ∀ x y : Asg, (∀ u, k ≤ u → x u = y u) → F x = F y) (hG : ∀ x y : Asg, (∀ u, k ≤ u → x u = y u) → G x = G y) (hH : ∀ x y : Asg, (∀ u, k ≤ u → x u = y u) → H x = H y) :
    ∀ x y : Asg, (∀ u, k ≤ u → x u = y u) → iteF F G H x = iteF F G H y := fun x y h => by
  simp only [iteF, hF x y h, hG x y h, hH x y h]

theorem den_indep {vars : Nat} {ns : List Bdd.Node} (ok : Ok vars ns) {f k : Nat} (hf : f < ns.length) (hk : k ≤ var ns f) : ∀ x y : Asg, (∀ u, k ≤ u → x u = y u) → den ns f x = den ns f y := fun x y h => indep ok f hf x y (fun u hu => h u (by omega))

/-- What stands at each point of ite's walk: the arena, the box of its own, the frame since the beginning. -/
structure Stg (w : World) (B g nb kb ib : Nat) (box : Array Value) (t : TypeId) (w1 : World) (nb1 cap1 : Nat) (A1 : St) (K1 T1 : Tri → Option Value) : Prop where
  ar : ArenaAt w1 B g nb1 kb ib cap1 A1 K1 T1
  fm : Frm (Fp g nb kb ib) w w1
  bx : w1.heap[w.heap.size]? = some (.cells box t (0, 0))
  nbc : nb1 = nb ∨ w.heap.size < nb1

theorem Stg.step {w : World} {B g nb kb ib : Nat} {box : Array Value} {t : TypeId} {w1 w2 : World} {nb1 cap1 nb2 cap2 : Nat} {A1 A2 : St} {K1 T1 K2 T2 : Tri → Option Value} {cap : Nat} {A : St} {K T : Tri → Option Value} (h0 : ArenaAt w B g nb kb ib cap A K T)
    (h : Stg w B g nb kb ib box t w1 nb1 cap1 A1 K1 T1) (ha : ArenaAt w2 B g nb2 kb ib cap2 A2 K2 T2) (hn : nb2 = nb1 ∨ w1.heap.size ≤ nb2) (hf : Frm (Fp g nb1 kb ib) w1 w2) : Stg w B g nb kb ib box t w2 nb2 cap2 A2 K2 T2 := by
  obtain ⟨l1, l2, l3, l4, _⟩ := h0.lts
  have hb := (Array.getElem?_eq_some_iff.1 h.bx).1
  refine ⟨ha, h.fm.trans hf (fun i hi hs => ?_), (hf.block _ hb (fun hs => ?_)).trans h.bx, ?_⟩
  · rcases hs with e | e | e | e
    · exact .inl e
    · rcases h.nbc with e' | e'
      · exact .inr (.inl (e.trans e'))
      · omega
    · exact .inr (.inr (.inl e))
    · exact .inr (.inr (.inr e))
  · rcases hs with e | e | e | e
    · omega
    · rcases h.nbc with e' | e' <;> omega
    · omega
    · omega
  · rcases hn with e | e
    · rw [e]; exact h.nbc
    · exact .inr (by omega)
theorem Stg.below {w : World} {B g nb kb ib : Nat} {box : Array Value} {t : TypeId} {w1 w2 : World} {nb1 cap1 : Nat} {A1 : St} {K1 T1 : Tri → Option Value} {cap : Nat} {A : St} {K T : Tri → Option Value} (h0 : ArenaAt w B g nb kb ib cap A K T)
    (h : Stg w B g nb kb ib box t w1 nb1 cap1 A1 K1 T1) (hb : RowKit.Below w1.heap.size w1 w2) : Stg w B g nb kb ib box t w2 nb1 cap1 A1 K1 T1 :=
  h.step h0 (h.ar.below hb) (.inl rfl) (Frm.of_below hb)
theorem Stg.out {w : World} {B g nb kb ib : Nat} {box : Array Value} {t : TypeId} {w1 : World} {nb1 cap1 : Nat} {A1 : St} {K1 T1 : Tri → Option Value} (h : Stg w B g nb kb ib box t w1 nb1 cap1 A1 K1 T1) {A : St} {F : Bdd.Fn} {k r : Nat} (hr : Res A A1 r F k) :
    IteP w B g nb kb ib A F k (.returned (.int .i64 (r : Int))) w1 :=
  ⟨r, nb1, cap1, A1, K1, T1, rfl, hr, h.ar, h.nbc.imp id (fun h => by omega), h.fm⟩

/-! ### the two inner calls: what they are given, and what their answers come to -/
theorem part_same {A A1 : St} (h : Ext A A1) {f : Nat} (hf : f < A.ns.length) (v : Nat) (is : Bool) : Bdd.part A1.ns f v is = Bdd.part A.ns f v is := by
  unfold Bdd.part; rw [h.get hf]

structure PS (A : St) (f a b k : Nat) : Prop where
  inv : Inv A
  hf : f < A.ns.length
  ha : a < A.ns.length
  hb : b < A.ns.length
  hv : k < A.vars
  kf : k ≤ var A.ns f
  ka : k ≤ var A.ns a
  kb : k ≤ var A.ns b

theorem PS.indep {A : St} {f a b k : Nat} (h : PS A f a b k) : ∀ x y : Asg, (∀ u, k ≤ u → x u = y u) → iteF (den A.ns f) (den A.ns a) (den A.ns b) x = iteF (den A.ns f) (den A.ns a) (den A.ns b) y :=
  iteF_indep (den_indep h.inv.ok h.hf h.kf) (den_indep h.inv.ok h.ha h.ka) (den_indep h.inv.ok h.hb h.kb)

theorem PS.args {A A1 : St} {f a b k : Nat} (h : PS A f a b k) (he : Ext A A1) {is : Bool} {p q r : Nat} (hp : Bdd.part A.ns f k is = p) (hq : Bdd.part A.ns a k is = q) (hr : Bdd.part A.ns b k is = r) :
    p < A1.ns.length ∧ q < A1.ns.length ∧ r < A1.ns.length ∧ k + 1 ≤ min3 (var A1.ns p) (var A1.ns q) (var A1.ns r) ∧
      iteF (den A1.ns p) (den A1.ns q) (den A1.ns r) = fun x => iteF (den A.ns f) (den A.ns a) (den A.ns b) (upd x k is) := by
  have ok := h.inv.ok
  have l1 := part_lt ok h.hf h.hv is
  have l2 := part_lt ok h.ha h.hv is
  have l3 := part_lt ok h.hb h.hv is
  have v1 := part_var ok h.hf h.hv h.kf is
  have v2 := part_var ok h.ha h.hv h.ka is
  have v3 := part_var ok h.hb h.hv h.kb is
  have d1 := part_den ok h.hf h.hv h.kf is
  have d2 := part_den ok h.ha h.hv h.ka is
  have d3 := part_den ok h.hb h.hv h.kb is
  rw [hp] at l1 v1 d1
  rw [hq] at l2 v2 d2
  rw [hr] at l3 v3 d3
  have hl := he.len
  simp only [St.len] at hl
  refine ⟨by omega, by omega, by omega, ?_, ?_⟩
  · rw [he.var l1, he.var l2, he.var l3]; unfold min3; omega
  · rw [he.den h.inv l1, he.den h.inv l2, he.den h.inv l3, d1, d2, d3]; rfl

theorem part_call {w : World} {B g nb kb ib cap : Nat} {A : St} {K T : Tri → Option Value} (h0 : ArenaAt w B g nb kb ib cap A K T) {box : Array Value} {t : TypeId} {w1 : World} {nb1 cap1 : Nat} {A1 : St} {K1 T1 : Tri → Option Value}
    (hs : Stg w B g nb kb ib box t w1 nb1 cap1 A1 K1 T1) (he : Ext A A1) {f v p : Nat} {is : Bool} (hf : f < A.ns.length) (hp : Bdd.part A.ns f v is = p) :
    Calls Try.prog 128 #[.pointer (some ⟨g, 0, none⟩), .int .i64 f, .int .i64 v, .bool is] w1 fun e w2 => e = .returned (.int .i64 (p : Int)) ∧ Stg w B g nb kb ib box t w2 nb1 cap1 A1 K1 T1 := by
  have hl := he.len
  simp only [St.len] at hl
  refine (part_walk hs.ar f v is (by omega)).mono ?_
  rintro e w2 ⟨rfl, hb⟩
  rw [part_same he hf, hp]
  exact ⟨rfl, hs.below h0 hb⟩

/-- What an inner ite leaves. -/
def IteQ (w : World) (B g nb kb ib : Nat) (box : Array Value) (t : TypeId) (A1 : St) (F : Bdd.Fn) (k : Nat) (e : Ending) (w2 : World) : Prop :=
  ∃ (x nb2 cap2 : Nat) (A2 : St) (K2 T2 : Tri → Option Value), e = .returned (.int .i64 (x : Int)) ∧ Stg w B g nb kb ib box t w2 nb2 cap2 A2 K2 T2 ∧ Res A1 A2 x F k

theorem ite_inner {m : Nat} (IH : ∀ (w : World) (B g nb kb ib cap : Nat) (A : St) (K T : Tri → Option Value) (h : ArenaAt w B g nb kb ib cap A K T) (f a b : Nat) (hf : f < A.ns.length) (ha : a < A.ns.length) (hb : b < A.ns.length)
    (hm : A.vars - min3 (var A.ns f) (var A.ns a) (var A.ns b) < m),
    Calls Try.prog 125 #[.pointer (some ⟨g, 0, none⟩), .int .i64 f, .int .i64 a, .int .i64 b] w (IteP w B g nb kb ib A (iteF (den A.ns f) (den A.ns a) (den A.ns b)) (min3 (var A.ns f) (var A.ns a) (var A.ns b))))
    {w : World} {B g nb kb ib cap : Nat} {A : St} {K T : Tri → Option Value} (h0 : ArenaAt w B g nb kb ib cap A K T) {box : Array Value} {t : TypeId} {w1 : World} {nb1 cap1 : Nat} {A1 : St} {K1 T1 : Tri → Option Value}
    (hs : Stg w B g nb kb ib box t w1 nb1 cap1 A1 K1 T1) (he : Ext A A1) {f a b k : Nat} (ps : PS A f a b k) (hm : A.vars - k < m + 1) {is : Bool} {p q r : Nat} (hp : Bdd.part A.ns f k is = p) (hq : Bdd.part A.ns a k is = q) (hr : Bdd.part A.ns b k is = r) :
    Calls Try.prog 125 #[.pointer (some ⟨g, 0, none⟩), .int .i64 p, .int .i64 q, .int .i64 r] w1 (IteQ w B g nb kb ib box t A1 (fun x => iteF (den A.ns f) (den A.ns a) (den A.ns b) (upd x k is)) (k + 1)) := by
  obtain ⟨l1, l2, l3, hk, hF⟩ := ps.args he hp hq hr
  have hv := ps.hv
  have hev := he.vars
  refine (IH w1 B g nb1 kb ib cap1 A1 K1 T1 hs.ar p q r l1 l2 l3 (by omega)).mono ?_
  rintro e w2 ⟨x, nb2, cap2, A2, K2, T2, rfl, hres, har, hnb, hfm⟩
  rw [hF] at hres
  exact ⟨x, nb2, cap2, A2, K2, T2, rfl, hs.step h0 har hnb hfm, hres.mono hk⟩

def MadeQ (w : World) (B g nb kb ib : Nat) (box : Array Value) (t : TypeId) (A : St) (F : Bdd.Fn) (k : Nat) (T : Tri → Option Value) (e : Ending) (w2 : World) : Prop :=
  ∃ (x nb2 cap2 : Nat) (A2 : St) (K2 : Tri → Option Value), e = .returned (.int .i64 (x : Int)) ∧ Stg w B g nb kb ib box t w2 nb2 cap2 A2 K2 T ∧ Res A A2 x F k

theorem made_inner {w : World} {B g nb kb ib cap : Nat} {A : St} {K T : Tri → Option Value} (h0 : ArenaAt w B g nb kb ib cap A K T) {box : Array Value} {t : TypeId} {w1 : World} {nb1 cap1 : Nat} {A1 A2 : St} {K1 T1 : Tri → Option Value}
    (hs : Stg w B g nb kb ib box t w1 nb1 cap1 A2 K1 T1) {f a b k lo hi : Nat} (ps : PS A f a b k)
    (r1 : Res A A1 lo (fun x => iteF (den A.ns f) (den A.ns a) (den A.ns b) (upd x k false)) (k + 1)) (r2 : Res A1 A2 hi (fun x => iteF (den A.ns f) (den A.ns a) (den A.ns b) (upd x k true)) (k + 1)) :
    Calls Try.prog 126 #[.pointer (some ⟨g, 0, none⟩), .int .i64 k, .int .i64 lo, .int .i64 hi] w1 (MadeQ w B g nb kb ib box t A (iteF (den A.ns f) (den A.ns a) (den A.ns b)) k T1) := by
  have hv := ps.hv
  have e1 := r1.ext.vars
  have e2 := r2.ext.vars
  have l1 := r1.lt
  have l2 := r2.lt
  have l12 := r2.ext.len
  have g1 := r1.ge
  have g2 := r2.ge
  rw [← r2.ext.var l1] at g1
  simp only [St.len] at l1 l2 l12
  refine (made_walk hs.ar k lo hi (by omega) (by omega) l2 (by omega) (by omega)).mono ?_
  rintro e w2 ⟨x, nb2, cap2, A3, K2, rfl, hmade, har, hnb, hfm⟩
  exact ⟨x, nb2, cap2, A3, K2, rfl, hs.step h0 har hnb hfm, res_node ps.inv hv ps.indep rfl rfl r1 r2 hmade⟩

theorem memo_fin {w u w7 : World} {B g nb kb ib nb1 cap1 : Nat} {A A3 : St} {K1 T1 : Tri → Option Value} {box : Array Value} {t : TypeId}
    (hs : Stg w B g nb kb ib box t u nb1 cap1 A3 K1 T1) {f a b k r : Nat} (ps : PS A f a b k) (hr : Res A A3 r (iteF (den A.ns f) (den A.ns a) (den A.ns b)) k) (hnf : A3.full = false)
    (hk7 : MapIs Try.prog 214 triVal triDom w7 ib (putM T1 (f, a, b) (.int .i64 (r : Int)))) (hg7 : u.grownBy w7 (some ib)) :
    IteP w B g nb kb ib A (iteF (den A.ns f) (den A.ns a) (den A.ns b)) k (.returned (.int .i64 (r : Int))) w7 := by
  have h := hs.ar
  obtain ⟨l1, l2, l3, l4, l5⟩ := h.lts
  obtain ⟨n1, n2, n3, n4, n5, n6⟩ := h.nes
  have hbk : ∀ j, j < u.heap.size → j ≠ ib → w7.heap[j]? = u.heap[j]? := fun j hj hn => hg7.block j hj (fun e => hn (Option.some.inj e))
  have hg := hbk g l1 n3
  have hn := hbk nb1 l2 n5
  have hkk := hbk kb l3 n6
  have e : ∀ o, w7.cell? ⟨g, o, none⟩ = u.cell? ⟨g, o, none⟩ := fun o => World.cell?_of_block (a := ⟨g, o, none⟩) hg
  have hit : ItesOk A3.ns (putM T1 (f, a, b) (.int .i64 (r : Int))) := by
    intro f' a' b' x hx
    have hl := hr.ext.len
    simp only [St.len] at hl
    have p1 := ps.hf
    have p2 := ps.ha
    have p3 := ps.hb
    by_cases e : (f', a', b') = (f, a, b)
    · simp only [Prod.mk.injEq] at e
      obtain ⟨rfl, rfl, rfl⟩ := e
      rw [putM_same] at hx
      cases hx
      refine ⟨r, rfl, by omega, by omega, by omega, hr.lt, ?_⟩
      rw [hr.eq hnf, hr.ext.den ps.inv ps.hf, hr.ext.den ps.inv ps.ha, hr.ext.den ps.inv ps.hb]
    · rw [putM_other _ _ e] at hx
      exact h.iok f' a' b' x hx
  refine ⟨r, nb1, cap1, A3, K1, _, rfl, hr, ⟨by rw [e]; exact h.c0, by rw [e]; exact h.c1, by rw [e]; exact h.c2, by rw [e]; exact h.c3, by rw [e]; exact h.c4, by rw [e]; exact h.c5, fun o => by rw [World.frozen?_of_block (a := ⟨g, o, none⟩) hg]; exact h.fr o, ?_, h.km.same hkk, hk7, h.inv, h.vs, h.ms, h.kok, hit, h.ne, h.lo⟩, hs.nbc.imp id (fun h => by omega), hs.fm.trans (S' := Fp g nb kb ib) ?_ (fun _ _ h => h)⟩
  · obtain ⟨h1, h2⟩ := h.own
    refine ⟨h1, ?_⟩
    rcases h2 with h2 | ⟨g', cap', cur, hv, hb, hh, r'⟩
    · exact .inl h2
    · have : g' = nb1 := by cases hv; rfl
      subst this
      exact .inr ⟨_, _, cur, hv, hb, hn.trans hh, r'⟩
  · exact Frm.of_grown hg7 (fun j hj _ => by cases hj; exact .inr (.inr (.inr rfl)))

set_option maxRecDepth 100000 in
set_option maxHeartbeats 8000000 in
theorem ite_walk (m : Nat) : ∀ (w : World) (B g nb kb ib cap : Nat) (A : St) (K T : Tri → Option Value) (h : ArenaAt w B g nb kb ib cap A K T) (f a b : Nat) (hf : f < A.ns.length) (ha : a < A.ns.length) (hb : b < A.ns.length)
    (hm : A.vars - min3 (var A.ns f) (var A.ns a) (var A.ns b) < m),
    Calls Try.prog 125 #[.pointer (some ⟨g, 0, none⟩), .int .i64 f, .int .i64 a, .int .i64 b] w (IteP w B g nb kb ib A (iteF (den A.ns f) (den A.ns a) (den A.ns b)) (min3 (var A.ns f) (var A.ns a) (var A.ns b))) := by
  induction m with
  | zero => intro w B g nb kb ib cap A K T h f a b hf ha hb hm; omega
  | succ m ih =>
    intro w B g nb kb ib cap A K T h f a b hf ha hb hm
    have IH := hide ih
    clear ih
    have ok := h.inv.ok
    have hlen := h.lenle
    have hvs := h.vs
    obtain ⟨l1, l2, l3, l4, l5⟩ := h.lts
    have hkf : min3 (var A.ns f) (var A.ns a) (var A.ns b) ≤ var A.ns f := by unfold min3; omega
    have hka : min3 (var A.ns f) (var A.ns a) (var A.ns b) ≤ var A.ns a := by unfold min3; omega
    have hkb : min3 (var A.ns f) (var A.ns a) (var A.ns b) ≤ var A.ns b := by unfold min3; omega
    have hvf := var_le ok hf
    have c5 := h.c5
    cases hfull : A.full
    case true =>
      rw [hfull] at c5
      have HF := hide (show IteP w B g nb kb ib A (iteF (den A.ns f) (den A.ns a) (den A.ns b)) (min3 (var A.ns f) (var A.ns a) (var A.ns b)) (.returned (.int .i64 ((0 : Nat) : Int))) w from
        iteP_there h (RowKit.Below.refl _ _) (by have := ok.two; omega) (by rw [var_zero ok]; omega) (fun e => by rw [hfull] at e; cases e))
      clear h ok
      go_enter Try.func125, Try.ntmps125
      go_wp2
      go_ret
      exact HF.out
    rw [hfull] at c5
    by_cases e1 : f = 1
    · subst e1
      have HF := hide (show IteP w B g nb kb ib A (iteF (den A.ns 1) (den A.ns a) (den A.ns b)) (min3 (var A.ns 1) (var A.ns a) (var A.ns b)) (.returned (.int .i64 (a : Int))) w from
        iteP_there h (RowKit.Below.refl _ _) ha hka (fun _ => by funext x; simp [iteF, den_one]))
      clear h ok
      go_enter Try.func125, Try.ntmps125
      go_wp2
      go_ret
      exact HF.out
    have e1' : ((f : Int) == 1) = false := by simp; omega
    by_cases e2 : a = b
    · subst e2
      have HF := hide (show IteP w B g nb kb ib A (iteF (den A.ns f) (den A.ns a) (den A.ns a)) (min3 (var A.ns f) (var A.ns a) (var A.ns a)) (.returned (.int .i64 (a : Int))) w from
        iteP_there h (RowKit.Below.refl _ _) ha hka (fun _ => by funext x; simp [iteF]))
      clear h ok
      go_enter Try.func125, Try.ntmps125
      go_wp2
      go_ret
      exact HF.out
    have e2' : ((a : Int) == (b : Int)) = false := by simp; omega
    by_cases e3 : f = 0
    · subst e3
      have HF := hide (show IteP w B g nb kb ib A (iteF (den A.ns 0) (den A.ns a) (den A.ns b)) (min3 (var A.ns 0) (var A.ns a) (var A.ns b)) (.returned (.int .i64 (b : Int))) w from
        iteP_there h (RowKit.Below.refl _ _) hb hkb (fun _ => by funext x; simp [iteF, den_zero]))
      clear h ok
      go_enter Try.func125, Try.ntmps125
      go_wp2
      go_ret
      exact HF.out
    have e3' : ((f : Int) == 0) = false := by simp; omega
    have hdom : triDom (f, a, b) := ⟨by show f < _; omega, by show a < _; omega, by show b < _; omega⟩
    have hb0 : ∀ o, RowKit.Below w.heap.size w (w.alloc o) := fun o => (RowKit.Below.refl _ _).alloc (Nat.le_refl _) _
    have hb0n : ∀ o n, RowKit.Below w.heap.size w ((w.alloc o).drewN n) := fun o n => (hb0 o).trans ⟨rfl, rfl, rfl, Nat.le_refl _, fun _ _ => rfl⟩
    have c4 := fun ob => (hb0 ob).cell (p := ⟨g, 4, none⟩) l1 |>.trans h.c4
    have him := fun (n : Nat) (ob : Obj) => ((h.below (hb0n ob n)).im.look tripKeys Try.underlying132 (zeroI _) hdom).1
    cases ek : T (f, a, b) with
    | some x =>
      obtain ⟨r, rfl, _, _, _, hrl, hrd⟩ := h.iok f a b x ek
      have hlk : ∀ n ob, (Instr.lookup 132 (.map (some ib)) (.agg #[.int .i64 f, .int .i64 a, .int .i64 b]) true).run Try.prog ((w.alloc ob).drewN n) = .ok (.tuple #[.int .i64 r, .bool true]) ((w.alloc ob).drewN n) := fun n ob => by
        have := him n ob
        rw [ek] at this
        exact this
      have HF := hide (fun ob n => show IteP w B g nb kb ib A (iteF (den A.ns f) (den A.ns a) (den A.ns b)) (min3 (var A.ns f) (var A.ns a) (var A.ns b)) (.returned (.int .i64 (r : Int))) ((w.alloc ob).drewN n) from
        iteP_there h (hb0n ob n) hrl (var_ge ok hrl (by omega) (fun x y hxy => by rw [hrd]; exact iteF_indep (den_indep ok hf hkf) (den_indep ok ha hka) (den_indep ok hb hkb) x y hxy)) (fun _ => hrd))
      clear h ok him ek hb0 hb0n
      go_enter Try.func125, Try.ntmps125
      go_wp2
      go_quiet (fail)
      go_wp2
      go_ret
      exact HF.out _ _
    | none =>
      have hlk : ∀ n ob, (Instr.lookup 132 (.map (some ib)) (.agg #[.int .i64 f, .int .i64 a, .int .i64 b]) true).run Try.prog ((w.alloc ob).drewN n) = .ok (.tuple #[.int .i64 0, .bool false]) ((w.alloc ob).drewN n) := fun n ob => by
        have := him n ob
        rw [ek] at this
        exact this
      have c2 := fun ob => (hb0 ob).cell (p := ⟨g, 2, none⟩) l1 |>.trans h.c2
      obtain ⟨nf, hnf⟩ := get_of_lt hf
      obtain ⟨na, hna⟩ := get_of_lt ha
      obtain ⟨nb', hnb⟩ := get_of_lt hb
      have d1 := fun ob => (hb0 ob).cell (p := ⟨nb, f * 3, none⟩) l2 |>.trans (h.node hnf).1
      have d2 := fun ob => (hb0 ob).cell (p := ⟨nb, a * 3, none⟩) l2 |>.trans (h.node hna).1
      have d3 := fun ob => (hb0 ob).cell (p := ⟨nb, b * 3, none⟩) l2 |>.trans (h.node hnb).1
      have hvf' : var A.ns f = nf.v := var_some hnf
      have hva' : var A.ns a = na.v := var_some hna
      have hvb' : var A.ns b = nb'.v := var_some hnb
      have hfv : nf.v < A.vars := by
        have := (var_lt_iff ok hf).2 (by omega)
        rw [hvf'] at this; exact this
      have HV := hide (show var A.ns f = nf.v ∧ var A.ns a = na.v ∧ var A.ns b = nb'.v from ⟨hvf', hva', hvb'⟩)
      have HS0 : Hid (∀ n, Stg w B g nb kb ib #[.int .i64 f, .int .i64 a, .int .i64 b] 214 ((w.alloc (.cells #[.int .i64 f, .int .i64 a, .int .i64 b] 214)).drewN n) nb cap A K T) := hide fun n =>
        ⟨h.below (hb0n _ n), Frm.of_below (hb0n _ n), heap_alloc_new w _, .inl rfl⟩
      have H := hide h
      have HOK := hide ok
      clear him ek h ok hb0 hb0n hvf hkf hka hkb
      by_cases m1 : na.v < nf.v
      · by_cases m2 : (na.v : Int) ≤ (nb'.v : Int)
        · have HK : Hid (min3 (var A.ns f) (var A.ns a) (var A.ns b) = na.v) := hide (by rw [HV.out.1, HV.out.2.1, HV.out.2.2]; unfold min3; omega)
          rw [HK.out]
          rw [HK.out] at hm
          have hkv : na.v < A.vars := by omega
          have HPS := hide (show PS A f a b na.v from ⟨H.out.inv, hf, ha, hb, hkv, by rw [HV.out.1]; omega, by rw [HV.out.2.1]; omega, by rw [HV.out.2.2]; omega⟩)
          obtain ⟨p0, hp0⟩ : ∃ p, Bdd.part A.ns f na.v false = p := ⟨_, rfl⟩
          obtain ⟨q0, hq0⟩ : ∃ p, Bdd.part A.ns a na.v false = p := ⟨_, rfl⟩
          obtain ⟨r0, hr0⟩ : ∃ p, Bdd.part A.ns b na.v false = p := ⟨_, rfl⟩
          obtain ⟨p1, hp1⟩ : ∃ p, Bdd.part A.ns f na.v true = p := ⟨_, rfl⟩
          obtain ⟨q1, hq1⟩ : ∃ p, Bdd.part A.ns a na.v true = p := ⟨_, rfl⟩
          obtain ⟨r1, hr1⟩ : ∃ p, Bdd.part A.ns b na.v true = p := ⟨_, rfl⟩
          have HPP := hide (And.intro hp0 (And.intro hq0 (And.intro hr0 (And.intro hp1 (And.intro hq1 hr1)))))
          have HFM := hide (And.intro hf (And.intro ha (And.intro hb (And.intro hm hdom))))
          clear hvf' hva' hvb' hp0 hq0 hr0 hp1 hq1 hr1
          go_enter Try.func125, Try.ntmps125
          go_wp2
          go_quiet (fail)
          go_wp2
          go_quiet (fail)
          clear c2 c4 c5 d1 d2 d3 hlk
          go_wp2_with fail
          clear hfull hnf hna hnb hm hf ha hb hdom hfv e1 e1' e2 e2' e3 e3' m1 m2 hkv
          refine (part_call H.out (HS0.out _) (Ext.refl H.out.inv) HFM.out.1 HPP.out.1).mono ?_
          rintro e wa ⟨rfl, hs⟩
          have HS1 := hide hs
          clear hs HS0
          go_wp2_with fail
          refine (part_call H.out HS1.out (Ext.refl H.out.inv) HFM.out.2.1 HPP.out.2.1).mono ?_
          rintro e wb ⟨rfl, hs⟩
          have HS2 := hide hs
          clear hs HS1
          go_wp2_with fail
          refine (part_call H.out HS2.out (Ext.refl H.out.inv) HFM.out.2.2.1 HPP.out.2.2.1).mono ?_
          rintro e wc ⟨rfl, hs⟩
          have HS3 := hide hs
          clear hs HS2
          go_wp2_with fail
          refine (ite_inner IH.out H.out HS3.out (Ext.refl H.out.inv) HPS.out HFM.out.2.2.2.1 HPP.out.1 HPP.out.2.1 HPP.out.2.2.1).mono ?_
          rintro e wd ⟨lo, nb1, cap1, A1, K1, T1, rfl, hs, hres⟩
          have HS4 := hide hs
          have HR1 := hide hres
          clear hs HS3 hres
          go_wp2_with fail
          refine (part_call H.out HS4.out HR1.out.ext HFM.out.1 HPP.out.2.2.2.1).mono ?_
          rintro e we ⟨rfl, hs⟩
          have HS5 := hide hs
          clear hs HS4
          go_wp2_with fail
          refine (part_call H.out HS5.out HR1.out.ext HFM.out.2.1 HPP.out.2.2.2.2.1).mono ?_
          rintro e wf ⟨rfl, hs⟩
          have HS6 := hide hs
          clear hs HS5
          go_wp2_with fail
          refine (part_call H.out HS6.out HR1.out.ext HFM.out.2.2.1 HPP.out.2.2.2.2.2).mono ?_
          rintro e wg ⟨rfl, hs⟩
          have HS7 := hide hs
          clear hs HS6
          go_wp2_with fail
          refine (ite_inner IH.out H.out HS7.out HR1.out.ext HPS.out HFM.out.2.2.2.1 HPP.out.2.2.2.1 HPP.out.2.2.2.2.1 HPP.out.2.2.2.2.2).mono ?_
          rintro e wh ⟨hi, nb2, cap2, A2, K2, T2, rfl, hs, hres⟩
          have HS8 := hide hs
          have HR2 := hide hres
          clear hs HS7 hres
          go_wp2_with fail
          refine (made_inner H.out HS8.out HPS.out HR1.out HR2.out).mono ?_
          rintro e wi ⟨r, nb3, cap3, A3, K3, rfl, hs, hres⟩
          have HS9 := hide hs
          have HR3 := hide hres
          clear hs HS8 hres HR1 HR2
          have c5 := HS9.out.ar.c5
          have c4 := HS9.out.ar.c4
          have x0 : wi.cell? ⟨w.heap.size, 0, none⟩ = some (.int .i64 f) := by rw [cell_of_row _ _ _ _ _ _ HS9.out.bx]; rfl
          have x1 : wi.cell? ⟨w.heap.size, 1, none⟩ = some (.int .i64 a) := by rw [cell_of_row _ _ _ _ _ _ HS9.out.bx]; rfl
          have x2 : wi.cell? ⟨w.heap.size, 2, none⟩ = some (.int .i64 b) := by rw [cell_of_row _ _ _ _ _ _ HS9.out.bx]; rfl
          cases hfull : A3.full
          case true =>
            rw [hfull] at c5
            go_wp2
            go_ret
            exact HS9.out.out HR3.out
          case false =>
            rw [hfull] at c5
            go_wp2
            go_still_tail 6, (by kernel_rfl)
            refine wpList_storeM _ rfl (.tmp 115) (.tmp 116) (.tmp 117) 132 rfl 3 tripKeys Try.underlying132 rfl (HS9.out.ar.im.same (w' := wi.drew) rfl) (f, a, b) HFM.out.2.2.2.2 rfl (.int .i64 (r : Int)) rfl ?_
            intro w7 hk7 hg7
            have HE := hide (memo_fin HS9.out HPS.out HR3.out hfull hk7 ⟨hg7.os, hg7.tape, hg7.output, hg7.size, hg7.block⟩)
            clear hk7 hg7
            go_wp2
            go_ret
            exact HE.out
        · have HK : Hid (min3 (var A.ns f) (var A.ns a) (var A.ns b) = nb'.v) := hide (by rw [HV.out.1, HV.out.2.1, HV.out.2.2]; unfold min3; omega)
          rw [HK.out]
          rw [HK.out] at hm
          have hkv : nb'.v < A.vars := by omega
          have HPS := hide (show PS A f a b nb'.v from ⟨H.out.inv, hf, ha, hb, hkv, by rw [HV.out.1]; omega, by rw [HV.out.2.1]; omega, by rw [HV.out.2.2]; omega⟩)
          obtain ⟨p0, hp0⟩ : ∃ p, Bdd.part A.ns f nb'.v false = p := ⟨_, rfl⟩
          obtain ⟨q0, hq0⟩ : ∃ p, Bdd.part A.ns a nb'.v false = p := ⟨_, rfl⟩
          obtain ⟨r0, hr0⟩ : ∃ p, Bdd.part A.ns b nb'.v false = p := ⟨_, rfl⟩
          obtain ⟨p1, hp1⟩ : ∃ p, Bdd.part A.ns f nb'.v true = p := ⟨_, rfl⟩
          obtain ⟨q1, hq1⟩ : ∃ p, Bdd.part A.ns a nb'.v true = p := ⟨_, rfl⟩
          obtain ⟨r1, hr1⟩ : ∃ p, Bdd.part A.ns b nb'.v true = p := ⟨_, rfl⟩
          have HPP := hide (And.intro hp0 (And.intro hq0 (And.intro hr0 (And.intro hp1 (And.intro hq1 hr1)))))
          have HFM := hide (And.intro hf (And.intro ha (And.intro hb (And.intro hm hdom))))
          clear hvf' hva' hvb' hp0 hq0 hr0 hp1 hq1 hr1
          go_enter Try.func125, Try.ntmps125
          go_wp2
          go_quiet (fail)
          go_wp2
          go_quiet (fail)
          clear c2 c4 c5 d1 d2 d3 hlk
          go_wp2_with fail
          clear hfull hnf hna hnb hm hf ha hb hdom hfv e1 e1' e2 e2' e3 e3' m1 m2 hkv
          refine (part_call H.out (HS0.out _) (Ext.refl H.out.inv) HFM.out.1 HPP.out.1).mono ?_
          rintro e wa ⟨rfl, hs⟩
          have HS1 := hide hs
          clear hs HS0
          go_wp2_with fail
          refine (part_call H.out HS1.out (Ext.refl H.out.inv) HFM.out.2.1 HPP.out.2.1).mono ?_
          rintro e wb ⟨rfl, hs⟩
          have HS2 := hide hs
          clear hs HS1
          go_wp2_with fail
          refine (part_call H.out HS2.out (Ext.refl H.out.inv) HFM.out.2.2.1 HPP.out.2.2.1).mono ?_
          rintro e wc ⟨rfl, hs⟩
          have HS3 := hide hs
          clear hs HS2
          go_wp2_with fail
          refine (ite_inner IH.out H.out HS3.out (Ext.refl H.out.inv) HPS.out HFM.out.2.2.2.1 HPP.out.1 HPP.out.2.1 HPP.out.2.2.1).mono ?_
          rintro e wd ⟨lo, nb1, cap1, A1, K1, T1, rfl, hs, hres⟩
          have HS4 := hide hs
          have HR1 := hide hres
          clear hs HS3 hres
          go_wp2_with fail
          refine (part_call H.out HS4.out HR1.out.ext HFM.out.1 HPP.out.2.2.2.1).mono ?_
          rintro e we ⟨rfl, hs⟩
          have HS5 := hide hs
          clear hs HS4
          go_wp2_with fail
          refine (part_call H.out HS5.out HR1.out.ext HFM.out.2.1 HPP.out.2.2.2.2.1).mono ?_
          rintro e wf ⟨rfl, hs⟩
          have HS6 := hide hs
          clear hs HS5
          go_wp2_with fail
          refine (part_call H.out HS6.out HR1.out.ext HFM.out.2.2.1 HPP.out.2.2.2.2.2).mono ?_
          rintro e wg ⟨rfl, hs⟩
          have HS7 := hide hs
          clear hs HS6
          go_wp2_with fail
          refine (ite_inner IH.out H.out HS7.out HR1.out.ext HPS.out HFM.out.2.2.2.1 HPP.out.2.2.2.1 HPP.out.2.2.2.2.1 HPP.out.2.2.2.2.2).mono ?_
          rintro e wh ⟨hi, nb2, cap2, A2, K2, T2, rfl, hs, hres⟩
          have HS8 := hide hs
          have HR2 := hide hres
          clear hs HS7 hres
          go_wp2_with fail
          refine (made_inner H.out HS8.out HPS.out HR1.out HR2.out).mono ?_
          rintro e wi ⟨r, nb3, cap3, A3, K3, rfl, hs, hres⟩
          have HS9 := hide hs
          have HR3 := hide hres
          clear hs HS8 hres HR1 HR2
          have c5 := HS9.out.ar.c5
          have c4 := HS9.out.ar.c4
          have x0 : wi.cell? ⟨w.heap.size, 0, none⟩ = some (.int .i64 f) := by rw [cell_of_row _ _ _ _ _ _ HS9.out.bx]; rfl
          have x1 : wi.cell? ⟨w.heap.size, 1, none⟩ = some (.int .i64 a) := by rw [cell_of_row _ _ _ _ _ _ HS9.out.bx]; rfl
          have x2 : wi.cell? ⟨w.heap.size, 2, none⟩ = some (.int .i64 b) := by rw [cell_of_row _ _ _ _ _ _ HS9.out.bx]; rfl
          cases hfull : A3.full
          case true =>
            rw [hfull] at c5
            go_wp2
            go_ret
            exact HS9.out.out HR3.out
          case false =>
            rw [hfull] at c5
            go_wp2
            go_still_tail 6, (by kernel_rfl)
            refine wpList_storeM _ rfl (.tmp 115) (.tmp 116) (.tmp 117) 132 rfl 3 tripKeys Try.underlying132 rfl (HS9.out.ar.im.same (w' := wi.drew) rfl) (f, a, b) HFM.out.2.2.2.2 rfl (.int .i64 (r : Int)) rfl ?_
            intro w7 hk7 hg7
            have HE := hide (memo_fin HS9.out HPS.out HR3.out hfull hk7 ⟨hg7.os, hg7.tape, hg7.output, hg7.size, hg7.block⟩)
            clear hk7 hg7
            go_wp2
            go_ret
            exact HE.out
      · by_cases m2 : (nf.v : Int) ≤ (nb'.v : Int)
        · have HK : Hid (min3 (var A.ns f) (var A.ns a) (var A.ns b) = nf.v) := hide (by rw [HV.out.1, HV.out.2.1, HV.out.2.2]; unfold min3; omega)
          rw [HK.out]
          rw [HK.out] at hm
          have hkv : nf.v < A.vars := by omega
          have HPS := hide (show PS A f a b nf.v from ⟨H.out.inv, hf, ha, hb, hkv, by rw [HV.out.1]; omega, by rw [HV.out.2.1]; omega, by rw [HV.out.2.2]; omega⟩)
          obtain ⟨p0, hp0⟩ : ∃ p, Bdd.part A.ns f nf.v false = p := ⟨_, rfl⟩
          obtain ⟨q0, hq0⟩ : ∃ p, Bdd.part A.ns a nf.v false = p := ⟨_, rfl⟩
          obtain ⟨r0, hr0⟩ : ∃ p, Bdd.part A.ns b nf.v false = p := ⟨_, rfl⟩
          obtain ⟨p1, hp1⟩ : ∃ p, Bdd.part A.ns f nf.v true = p := ⟨_, rfl⟩
          obtain ⟨q1, hq1⟩ : ∃ p, Bdd.part A.ns a nf.v true = p := ⟨_, rfl⟩
          obtain ⟨r1, hr1⟩ : ∃ p, Bdd.part A.ns b nf.v true = p := ⟨_, rfl⟩
          have HPP := hide (And.intro hp0 (And.intro hq0 (And.intro hr0 (And.intro hp1 (And.intro hq1 hr1)))))
          have HFM := hide (And.intro hf (And.intro ha (And.intro hb (And.intro hm hdom))))
          clear hvf' hva' hvb' hp0 hq0 hr0 hp1 hq1 hr1
          go_enter Try.func125, Try.ntmps125
          go_wp2
          go_quiet (fail)
          go_wp2
          go_quiet (fail)
          clear c2 c4 c5 d1 d2 d3 hlk
          go_wp2_with fail
          clear hfull hnf hna hnb hm hf ha hb hdom hfv e1 e1' e2 e2' e3 e3' m1 m2 hkv
          refine (part_call H.out (HS0.out _) (Ext.refl H.out.inv) HFM.out.1 HPP.out.1).mono ?_
          rintro e wa ⟨rfl, hs⟩
          have HS1 := hide hs
          clear hs HS0
          go_wp2_with fail
          refine (part_call H.out HS1.out (Ext.refl H.out.inv) HFM.out.2.1 HPP.out.2.1).mono ?_
          rintro e wb ⟨rfl, hs⟩
          have HS2 := hide hs
          clear hs HS1
          go_wp2_with fail
          refine (part_call H.out HS2.out (Ext.refl H.out.inv) HFM.out.2.2.1 HPP.out.2.2.1).mono ?_
          rintro e wc ⟨rfl, hs⟩
          have HS3 := hide hs
          clear hs HS2
          go_wp2_with fail
          refine (ite_inner IH.out H.out HS3.out (Ext.refl H.out.inv) HPS.out HFM.out.2.2.2.1 HPP.out.1 HPP.out.2.1 HPP.out.2.2.1).mono ?_
          rintro e wd ⟨lo, nb1, cap1, A1, K1, T1, rfl, hs, hres⟩
          have HS4 := hide hs
          have HR1 := hide hres
          clear hs HS3 hres
          go_wp2_with fail
          refine (part_call H.out HS4.out HR1.out.ext HFM.out.1 HPP.out.2.2.2.1).mono ?_
          rintro e we ⟨rfl, hs⟩
          have HS5 := hide hs
          clear hs HS4
          go_wp2_with fail
          refine (part_call H.out HS5.out HR1.out.ext HFM.out.2.1 HPP.out.2.2.2.2.1).mono ?_
          rintro e wf ⟨rfl, hs⟩
          have HS6 := hide hs
          clear hs HS5
          go_wp2_with fail
          refine (part_call H.out HS6.out HR1.out.ext HFM.out.2.2.1 HPP.out.2.2.2.2.2).mono ?_
          rintro e wg ⟨rfl, hs⟩
          have HS7 := hide hs
          clear hs HS6
          go_wp2_with fail
          refine (ite_inner IH.out H.out HS7.out HR1.out.ext HPS.out HFM.out.2.2.2.1 HPP.out.2.2.2.1 HPP.out.2.2.2.2.1 HPP.out.2.2.2.2.2).mono ?_
          rintro e wh ⟨hi, nb2, cap2, A2, K2, T2, rfl, hs, hres⟩
          have HS8 := hide hs
          have HR2 := hide hres
          clear hs HS7 hres
          go_wp2_with fail
          refine (made_inner H.out HS8.out HPS.out HR1.out HR2.out).mono ?_
          rintro e wi ⟨r, nb3, cap3, A3, K3, rfl, hs, hres⟩
          have HS9 := hide hs
          have HR3 := hide hres
          clear hs HS8 hres HR1 HR2
          have c5 := HS9.out.ar.c5
          have c4 := HS9.out.ar.c4
          have x0 : wi.cell? ⟨w.heap.size, 0, none⟩ = some (.int .i64 f) := by rw [cell_of_row _ _ _ _ _ _ HS9.out.bx]; rfl
          have x1 : wi.cell? ⟨w.heap.size, 1, none⟩ = some (.int .i64 a) := by rw [cell_of_row _ _ _ _ _ _ HS9.out.bx]; rfl
          have x2 : wi.cell? ⟨w.heap.size, 2, none⟩ = some (.int .i64 b) := by rw [cell_of_row _ _ _ _ _ _ HS9.out.bx]; rfl
          cases hfull : A3.full
          case true =>
            rw [hfull] at c5
            go_wp2
            go_ret
            exact HS9.out.out HR3.out
          case false =>
            rw [hfull] at c5
            go_wp2
            go_still_tail 6, (by kernel_rfl)
            refine wpList_storeM _ rfl (.tmp 115) (.tmp 116) (.tmp 117) 132 rfl 3 tripKeys Try.underlying132 rfl (HS9.out.ar.im.same (w' := wi.drew) rfl) (f, a, b) HFM.out.2.2.2.2 rfl (.int .i64 (r : Int)) rfl ?_
            intro w7 hk7 hg7
            have HE := hide (memo_fin HS9.out HPS.out HR3.out hfull hk7 ⟨hg7.os, hg7.tape, hg7.output, hg7.size, hg7.block⟩)
            clear hk7 hg7
            go_wp2
            go_ret
            exact HE.out
        · have HK : Hid (min3 (var A.ns f) (var A.ns a) (var A.ns b) = nb'.v) := hide (by rw [HV.out.1, HV.out.2.1, HV.out.2.2]; unfold min3; omega)
          rw [HK.out]
          rw [HK.out] at hm
          have hkv : nb'.v < A.vars := by omega
          have HPS := hide (show PS A f a b nb'.v from ⟨H.out.inv, hf, ha, hb, hkv, by rw [HV.out.1]; omega, by rw [HV.out.2.1]; omega, by rw [HV.out.2.2]; omega⟩)
          obtain ⟨p0, hp0⟩ : ∃ p, Bdd.part A.ns f nb'.v false = p := ⟨_, rfl⟩
          obtain ⟨q0, hq0⟩ : ∃ p, Bdd.part A.ns a nb'.v false = p := ⟨_, rfl⟩
          obtain ⟨r0, hr0⟩ : ∃ p, Bdd.part A.ns b nb'.v false = p := ⟨_, rfl⟩
          obtain ⟨p1, hp1⟩ : ∃ p, Bdd.part A.ns f nb'.v true = p := ⟨_, rfl⟩
          obtain ⟨q1, hq1⟩ : ∃ p, Bdd.part A.ns a nb'.v true = p := ⟨_, rfl⟩
          obtain ⟨r1, hr1⟩ : ∃ p, Bdd.part A.ns b nb'.v true = p := ⟨_, rfl⟩
          have HPP := hide (And.intro hp0 (And.intro hq0 (And.intro hr0 (And.intro hp1 (And.intro hq1 hr1)))))
          have HFM := hide (And.intro hf (And.intro ha (And.intro hb (And.intro hm hdom))))
          clear hvf' hva' hvb' hp0 hq0 hr0 hp1 hq1 hr1
          go_enter Try.func125, Try.ntmps125
          go_wp2
          go_quiet (fail)
          go_wp2
          go_quiet (fail)
          clear c2 c4 c5 d1 d2 d3 hlk
          go_wp2_with fail
          clear hfull hnf hna hnb hm hf ha hb hdom hfv e1 e1' e2 e2' e3 e3' m1 m2 hkv
          refine (part_call H.out (HS0.out _) (Ext.refl H.out.inv) HFM.out.1 HPP.out.1).mono ?_
          rintro e wa ⟨rfl, hs⟩
          have HS1 := hide hs
          clear hs HS0
          go_wp2_with fail
          refine (part_call H.out HS1.out (Ext.refl H.out.inv) HFM.out.2.1 HPP.out.2.1).mono ?_
          rintro e wb ⟨rfl, hs⟩
          have HS2 := hide hs
          clear hs HS1
          go_wp2_with fail
          refine (part_call H.out HS2.out (Ext.refl H.out.inv) HFM.out.2.2.1 HPP.out.2.2.1).mono ?_
          rintro e wc ⟨rfl, hs⟩
          have HS3 := hide hs
          clear hs HS2
          go_wp2_with fail
          refine (ite_inner IH.out H.out HS3.out (Ext.refl H.out.inv) HPS.out HFM.out.2.2.2.1 HPP.out.1 HPP.out.2.1 HPP.out.2.2.1).mono ?_
          rintro e wd ⟨lo, nb1, cap1, A1, K1, T1, rfl, hs, hres⟩
          have HS4 := hide hs
          have HR1 := hide hres
          clear hs HS3 hres
          go_wp2_with fail
          refine (part_call H.out HS4.out HR1.out.ext HFM.out.1 HPP.out.2.2.2.1).mono ?_
          rintro e we ⟨rfl, hs⟩
          have HS5 := hide hs
          clear hs HS4
          go_wp2_with fail
          refine (part_call H.out HS5.out HR1.out.ext HFM.out.2.1 HPP.out.2.2.2.2.1).mono ?_
          rintro e wf ⟨rfl, hs⟩
          have HS6 := hide hs
          clear hs HS5
          go_wp2_with fail
          refine (part_call H.out HS6.out HR1.out.ext HFM.out.2.2.1 HPP.out.2.2.2.2.2).mono ?_
          rintro e wg ⟨rfl, hs⟩
          have HS7 := hide hs
          clear hs HS6
          go_wp2_with fail
          refine (ite_inner IH.out H.out HS7.out HR1.out.ext HPS.out HFM.out.2.2.2.1 HPP.out.2.2.2.1 HPP.out.2.2.2.2.1 HPP.out.2.2.2.2.2).mono ?_
          rintro e wh ⟨hi, nb2, cap2, A2, K2, T2, rfl, hs, hres⟩
          have HS8 := hide hs
          have HR2 := hide hres
          clear hs HS7 hres
          go_wp2_with fail
          refine (made_inner H.out HS8.out HPS.out HR1.out HR2.out).mono ?_
          rintro e wi ⟨r, nb3, cap3, A3, K3, rfl, hs, hres⟩
          have HS9 := hide hs
          have HR3 := hide hres
          clear hs HS8 hres HR1 HR2
          have c5 := HS9.out.ar.c5
          have c4 := HS9.out.ar.c4
          have x0 : wi.cell? ⟨w.heap.size, 0, none⟩ = some (.int .i64 f) := by rw [cell_of_row _ _ _ _ _ _ HS9.out.bx]; rfl
          have x1 : wi.cell? ⟨w.heap.size, 1, none⟩ = some (.int .i64 a) := by rw [cell_of_row _ _ _ _ _ _ HS9.out.bx]; rfl
          have x2 : wi.cell? ⟨w.heap.size, 2, none⟩ = some (.int .i64 b) := by rw [cell_of_row _ _ _ _ _ _ HS9.out.bx]; rfl
          cases hfull : A3.full
          case true =>
            rw [hfull] at c5
            go_wp2
            go_ret
            exact HS9.out.out HR3.out
          case false =>
            rw [hfull] at c5
            go_wp2
            go_still_tail 6, (by kernel_rfl)
            refine wpList_storeM _ rfl (.tmp 115) (.tmp 116) (.tmp 117) 132 rfl 3 tripKeys Try.underlying132 rfl (HS9.out.ar.im.same (w' := wi.drew) rfl) (f, a, b) HFM.out.2.2.2.2 rfl (.int .i64 (r : Int)) rfl ?_
            intro w7 hk7 hg7
            have HE := hide (memo_fin HS9.out HPS.out HR3.out hfull hk7 ⟨hg7.os, hg7.tape, hg7.output, hg7.size, hg7.block⟩)
            clear hk7 hg7
            go_wp2
            go_ret
            exact HE.out
end Go.Proofs.Ytidikopjfpioaaa
