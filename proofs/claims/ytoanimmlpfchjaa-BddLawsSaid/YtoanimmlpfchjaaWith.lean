/- The arena's inner calls: with, put. -/
import Derived.Test.YtoanimmlpfchjaaBS
import Derived.Deep.RegionHeld3
set_option linter.unusedVariables false
set_option linter.unusedSimpArgs false
namespace Go.Proofs.Ytoanimmlpfchjaa
open Go.RowKit Go.Maps Bdd

/-! ### plain -/
def restr (F : Bdd.Fn) (i : Nat) (b : Bool) : Bdd.Fn := fun x => F (upd x i b)

theorem upd_comm (x : Asg) {u v : Nat} (a b : Bool) (h : u ≠ v) : upd (upd x u a) v b = upd (upd x v b) u a := by
  funext w; simp only [upd]
  by_cases e1 : w = v
  · subst e1; simp [Ne.symm h]
  · by_cases e2 : w = u
    · subst e2; simp [h]
    · simp [e1, e2]

theorem restr_above {vars : Nat} {ns : List Bdd.Node} (ok : Ok vars ns) {f i : Nat} (hf : f < ns.length) (hi : i < var ns f) (b : Bool) : restr (den ns f) i b = den ns f := by
  funext x
  exact indep ok f hf _ _ (fun u hu => upd_other x b (by omega))

theorem restr_indep {vars : Nat} {ns : List Bdd.Node} (ok : Ok vars ns) {f k : Nat} (hf : f < ns.length) (hk : k ≤ var ns f) (i : Nat) (b : Bool) : ∀ x y : Asg, (∀ u, k ≤ u → x u = y u) → restr (den ns f) i b x = restr (den ns f) i b y := fun x y h => by
  refine den_indep ok hf hk _ _ (fun u hu => ?_)
  simp only [upd]
  split
  · rfl
  · exact h u hu

theorem restr_lo {vars : Nat} {ns : List Bdd.Node} (ok : Ok vars ns) {f : Nat} {n : Bdd.Node} (hn : ns[f]? = some n) (h2 : 2 ≤ f) {i : Nat} (b : Bool) (hi : n.v ≠ i) : restr (den ns n.lo) i b = fun x => restr (den ns f) i b (upd x n.v false) := by
  funext x
  simp only [restr]
  rw [upd_comm x false b hi, den_lo ok hn h2]
theorem restr_hi {vars : Nat} {ns : List Bdd.Node} (ok : Ok vars ns) {f : Nat} {n : Bdd.Node} (hn : ns[f]? = some n) (h2 : 2 ≤ f) {i : Nat} (b : Bool) (hi : n.v ≠ i) : restr (den ns n.hi) i b = fun x => restr (den ns f) i b (upd x n.v true) := by
  funext x
  simp only [restr]
  rw [upd_comm x true b hi, den_hi ok hn h2]

/-! ### maps from numbers -/
def numVal (a : Nat) : Value := .int .i64 (a : Int)
def numDom (a : Nat) : Prop := a < 65536
theorem num_few : ∃ L : List Nat, L.length < 9223372036854775807 ∧ ∀ a, numDom a → a ∈ L := ⟨List.range 65536, by simp, fun a ha => List.mem_range.2 ha⟩
theorem numKeys : KeysOk Try.prog 3 numVal numDom :=
  ⟨int_keyed Try.underlying3, fun a ha => ⟨_, keyOf_int_mk Try.underlying3 (i64_wf a ha)⟩, fun a b h => by simp [numVal] at h; omega, num_few⟩

def SeenOk (A : St) (S : Nat → Option Value) (i : Nat) (b : Bool) : Prop :=
  ∀ f x, S f = some x → ∃ r : Nat, x = .int .i64 (r : Int) ∧ (A.full = false → f < A.ns.length ∧ r < A.ns.length ∧ den A.ns r = restr (den A.ns f) i b)
theorem SeenOk.ext {A A' : St} {S : Nat → Option Value} {i : Nat} {b : Bool} (h : SeenOk A S i b) (he : Ext A A') (hi : Inv A) : SeenOk A' S i b := fun f x hx => by
  obtain ⟨r, e, h1⟩ := h f x hx
  refine ⟨r, e, fun hf => ?_⟩
  obtain ⟨h2, h3, h4⟩ := h1 (he.notFull hf)
  exact ⟨Nat.lt_of_lt_of_le h2 he.len, Nat.lt_of_lt_of_le h3 he.len, by rw [he.den hi h3, he.den hi h2, h4]⟩

/-- The arena's blocks, and the map's. -/
def Fs (g nb kb ib sb : Nat) (k : Nat) : Prop := Fp g nb kb ib k ∨ k = sb

structure WS (w : World) (B g nb kb ib sb : Nat) (T : Tri → Option Value) (i : Nat) (b : Bool) (w1 : World) (nb1 cap1 : Nat) (A1 : St) (K1 : Tri → Option Value) (S1 : Nat → Option Value) : Prop where
  ar : ArenaAt w1 B g nb1 kb ib cap1 A1 K1 T
  nbc : nb1 = nb ∨ w.heap.size ≤ nb1
  fm : Frm (Fs g nb kb ib sb) w w1
  sm : MapIs Try.prog 3 numVal numDom w1 sb S1
  sk : SeenOk A1 S1 i b

def WithP (w : World) (B g nb kb ib sb : Nat) (A : St) (T : Tri → Option Value) (i : Nat) (b : Bool) (F : Bdd.Fn) (k : Nat) (e : Ending) (W' : World) : Prop :=
  ∃ (r nb' cap' : Nat) (A' : St) (K' : Tri → Option Value) (S' : Nat → Option Value), e = .returned (.int .i64 (r : Int)) ∧ Res A A' r F k ∧ WS w B g nb kb ib sb T i b W' nb' cap' A' K' S'

theorem WS.trans {w : World} {B g nb kb ib sb : Nat} {T : Tri → Option Value} {i : Nat} {b : Bool} {w1 w2 : World} {nb1 cap1 nb2 cap2 : Nat} {A1 A2 : St} {K1 K2 : Tri → Option Value} {S1 S2 : Nat → Option Value}
    (hlt : nb < w.heap.size) (h : WS w B g nb kb ib sb T i b w1 nb1 cap1 A1 K1 S1) (h2 : WS w1 B g nb1 kb ib sb T i b w2 nb2 cap2 A2 K2 S2) : WS w B g nb kb ib sb T i b w2 nb2 cap2 A2 K2 S2 := by
  have hs := h.fm.size
  refine ⟨h2.ar, ?_, h.fm.trans h2.fm (fun k hk hS => ?_), h2.sm, h2.sk⟩
  · rcases h2.nbc with e | e
    · rw [e]; exact h.nbc
    · exact .inr (by omega)
  · rcases hS with (e | e | e | e) | e
    · exact .inl (.inl e)
    · rcases h.nbc with e' | e'
      · exact .inl (.inr (.inl (e.trans e')))
      · omega
    · exact .inl (.inr (.inr (.inl e)))
    · exact .inl (.inr (.inr (.inr e)))
    · exact .inr e

theorem WS.start {w : World} {B g nb kb ib sb cap : Nat} {A : St} {K T : Tri → Option Value} {S : Nat → Option Value} {i : Nat} {b : Bool} (h : ArenaAt w B g nb kb ib cap A K T) (hs : MapIs Try.prog 3 numVal numDom w sb S) (hk : SeenOk A S i b) : WS w B g nb kb ib sb T i b w nb cap A K S :=
  ⟨h, .inl rfl, Frm.refl _ _, hs, hk⟩
theorem WS.below {w : World} {B g nb kb ib sb : Nat} {T : Tri → Option Value} {i : Nat} {b : Bool} {w1 w2 : World} {nb1 cap1 : Nat} {A1 : St} {K1 : Tri → Option Value} {S1 : Nat → Option Value}
    (h : WS w B g nb kb ib sb T i b w1 nb1 cap1 A1 K1 S1) (hb : RowKit.Below w1.heap.size w1 w2) : WS w B g nb kb ib sb T i b w2 nb1 cap1 A1 K1 S1 :=
  ⟨h.ar.below hb, h.nbc, h.fm.trans (Frm.of_below hb) (fun _ _ h => h), h.sm.same (hb.block _ h.sm.lt), h.sk⟩
theorem WS.base {w w0 : World} {B g nb kb ib sb : Nat} {T : Tri → Option Value} {i : Nat} {b : Bool} {w1 : World} {nb1 cap1 : Nat} {A1 : St} {K1 : Tri → Option Value} {S1 : Nat → Option Value}
    (hb : RowKit.Below w.heap.size w w0) (h : WS w0 B g nb kb ib sb T i b w1 nb1 cap1 A1 K1 S1) : WS w B g nb kb ib sb T i b w1 nb1 cap1 A1 K1 S1 :=
  ⟨h.ar, h.nbc.imp id (fun h => by have := hb.size; omega), (Frm.of_below hb).trans h.fm (fun _ _ h => h), h.sm, h.sk⟩

/-- A block that is none of these stays. -/
theorem WS.block {w : World} {B g nb kb ib sb : Nat} {T : Tri → Option Value} {i : Nat} {b : Bool} {w1 : World} {nb1 cap1 : Nat} {A1 : St} {K1 : Tri → Option Value} {S1 : Nat → Option Value}
    (h : WS w B g nb kb ib sb T i b w1 nb1 cap1 A1 K1 S1) {N : Nat} (hN : N < w.heap.size) (hn : ¬ Fs g nb kb ib sb N) : w1.heap[N]? = w.heap[N]? := h.fm.block N hN hn

theorem with_inner {m : Nat} {i : Nat} {b : Bool}
    (ih : ∀ (w : World) (B g nb kb ib sb cap : Nat) (A : St) (K T : Tri → Option Value) (S : Nat → Option Value) (h : ArenaAt w B g nb kb ib cap A K T) (hs : MapIs Try.prog 3 numVal numDom w sb S) (hk : SeenOk A S i b) (hsb : ¬ Fp g nb kb ib sb) (f : Nat) (hf : f < A.ns.length) (hi : i < A.vars) (hm : f < m),
      Calls Try.prog 118 #[.pointer (some ⟨g, 0, none⟩), .int .i64 f, .int .i64 i, .bool b, .map (some sb)] w (WithP w B g nb kb ib sb A T i b (restr (den A.ns f) i b) (var A.ns f)))
    {w : World} {B g nb kb ib sb : Nat} {T : Tri → Option Value} {w1 : World} {nb1 cap1 : Nat} {A A1 : St} {K1 : Tri → Option Value} {S1 : Nat → Option Value} (hlt : nb < w.heap.size) (hsl : sb < w.heap.size) (hsb : ¬ Fp g nb kb ib sb)
    (h : WS w B g nb kb ib sb T i b w1 nb1 cap1 A1 K1 S1) (hA : Inv A) (he : Ext A A1) (f : Nat) (hf : f < A.ns.length) (hi : i < A.vars) (hm : f < m) :
    Calls Try.prog 118 #[.pointer (some ⟨g, 0, none⟩), .int .i64 f, .int .i64 i, .bool b, .map (some sb)] w1
      (fun e w2 => ∃ (r nb2 cap2 : Nat) (A2 : St) (K2 : Tri → Option Value) (S2 : Nat → Option Value), e = .returned (.int .i64 (r : Int)) ∧ Res A1 A2 r (restr (den A.ns f) i b) (var A.ns f) ∧ WS w B g nb kb ib sb T i b w2 nb2 cap2 A2 K2 S2) := by
  have hsb1 : ¬ Fp g nb1 kb ib sb := fun hS => by
    rcases hS with e | e | e | e
    · exact hsb (.inl e)
    · rcases h.nbc with e' | e'
      · exact hsb (.inr (.inl (e.trans e')))
      · omega
    · exact hsb (.inr (.inr (.inl e)))
    · exact hsb (.inr (.inr (.inr e)))
  refine (ih w1 B g nb1 kb ib sb cap1 A1 K1 T S1 h.ar h.sm h.sk hsb1 f (Nat.lt_of_lt_of_le hf he.len) (by rw [he.vars]; exact hi) hm).mono ?_
  rintro e w2 ⟨r, nb2, cap2, A2, K2, S2, he2, hr, hws⟩
  rw [he.den hA hf, he.var hf] at hr
  exact ⟨r, nb2, cap2, A2, K2, S2, he2, hr, h.trans hlt hws⟩

/-- made, met between such calls. -/
theorem made_ws {w : World} {B g nb kb ib sb : Nat} {T : Tri → Option Value} {i : Nat} {b : Bool} {w1 : World} {nb1 cap1 : Nat} {A A1 A2 : St} {K1 : Tri → Option Value} {S1 : Nat → Option Value} {F L H : Bdd.Fn} {v lo hi : Nat} (hlt : nb < w.heap.size) (hsl : sb < w.heap.size) (hsb : ¬ Fp g nb kb ib sb)
    (h : WS w B g nb kb ib sb T i b w1 nb1 cap1 A2 K1 S1) (hA : Inv A) (hv : v < A.vars) (hF : ∀ x y : Asg, (∀ u, v ≤ u → x u = y u) → F x = F y) (hL : L = fun x => F (upd x v false)) (hH : H = fun x => F (upd x v true)) (r1 : Res A A1 lo L (v + 1)) (r2 : Res A1 A2 hi H (v + 1)) :
    Calls Try.prog 89 #[.pointer (some ⟨g, 0, none⟩), .int .i64 v, .int .i64 lo, .int .i64 hi] w1
      (fun e w2 => ∃ (r nb2 cap2 : Nat) (A3 : St) (K2 : Tri → Option Value), e = .returned (.int .i64 (r : Int)) ∧ Res A A3 r F v ∧ WS w B g nb kb ib sb T i b w2 nb2 cap2 A3 K2 S1) := by
  have e1 := r1.ext.vars
  have e2 := r2.ext.vars
  have l1 := r1.lt
  have l2 := r2.lt
  have l12 := r2.ext.len
  have g1 := r1.ge
  have g2 := r2.ge
  rw [← r2.ext.var l1] at g1
  simp only [St.len] at l1 l2 l12
  refine (made_walk h.ar v lo hi (by omega) (by omega) l2 (by omega) (by omega)).mono ?_
  rintro e w2 ⟨x, nb2, cap2, A3, K2, rfl, hmade, har, hnb, hfm⟩
  have hres := res_node hA hv hF hL hH r1 r2 hmade
  have hx3 : Ext A2 A3 := hmade.ext r2.ext.inv (by omega) (by simp only [St.len]; omega) (by simp only [St.len]; omega) (by omega) (by omega)
  have hsl1 := h.sm.lt
  have hsn : ¬ Fp g nb1 kb ib sb := fun hS => by
    rcases hS with e | e | e | e
    · exact hsb (.inl e)
    · rcases h.nbc with e' | e'
      · exact hsb (.inr (.inl (e.trans e')))
      · omega
    · exact hsb (.inr (.inr (.inl e)))
    · exact hsb (.inr (.inr (.inr e)))
  exact ⟨x, nb2, cap2, A3, K2, rfl, hres, h.trans hlt ⟨har, hnb, hfm.mono (fun _ _ h => .inl h), h.sm.same (hfm.block _ hsl1 hsn), h.sk.ext hx3 h.ar.inv⟩⟩

/-- .. and the store into the map. -/
theorem store_ws {w : World} {B g nb kb ib sb : Nat} {T : Tri → Option Value} {i : Nat} {b : Bool} {u w7 : World} {nb1 cap1 : Nat} {A A1 : St} {K1 : Tri → Option Value} {S1 : Nat → Option Value} {f r k : Nat} (hsl : sb < w.heap.size) (hsb : ¬ Fp g nb kb ib sb)
    (h : WS w B g nb kb ib sb T i b u nb1 cap1 A1 K1 S1) (hA : Inv A) (hf : f < A.ns.length) (hr : Res A A1 r (restr (den A.ns f) i b) k)
    (h7 : MapIs Try.prog 3 numVal numDom w7 sb (putM S1 f (.int .i64 (r : Int)))) (hg : u.grownBy w7 (some sb)) : WS w B g nb kb ib sb T i b w7 nb1 cap1 A1 K1 (putM S1 f (.int .i64 (r : Int))) := by
  have hs := h.fm.size
  obtain ⟨l1, l2, l3, l4, _⟩ := h.ar.lts
  have hbk : ∀ j, j < u.heap.size → j ≠ sb → w7.heap[j]? = u.heap[j]? := fun j hj hn => hg.block j hj (fun e => hn (Option.some.inj e))
  have n1 : g ≠ sb := fun e => hsb (.inl e.symm)
  have n2 : nb1 ≠ sb := fun e => by
    rcases h.nbc with e' | e'
    · exact hsb (.inr (.inl (by omega)))
    · omega
  have n3 : kb ≠ sb := fun e => hsb (.inr (.inr (.inl e.symm)))
  have n4 : ib ≠ sb := fun e => hsb (.inr (.inr (.inr e.symm)))
  refine ⟨h.ar.keep (hbk g l1 n1) (hbk nb1 l2 n2) (hbk kb l3 n3) (hbk ib l4 n4), h.nbc, h.fm.trans (Frm.of_grown (S := Fs g nb kb ib sb) hg (fun k hk _ => by cases hk; exact .inr rfl)) (fun _ _ h => h), h7, ?_⟩
  intro f' x hx
  by_cases e : f' = f
  · subst e
    rw [putM_same] at hx
    cases hx
    exact ⟨r, rfl, fun hnf => ⟨Nat.lt_of_lt_of_le hf hr.ext.len, hr.lt, by rw [hr.eq hnf, hr.ext.den hA hf]⟩⟩
  · rw [putM_other _ _ e] at hx
    exact h.sk f' x hx
end Go.Proofs.Ytoanimmlpfchjaa
