/- A part of the proof: G7. -/
import Derived.Test.YtifkacnoiocebaaGreatRs3
import Derived.Deep.RegionHeld3
import Derived.IntWalk
set_option linter.unusedVariables false
set_option linter.unusedSimpArgs false
set_option maxRecDepth 100000
set_option maxHeartbeats 8000000
namespace Go.Proofs.YtifkacnoiocebaaGreat
open Bdd Go.Maps Go.RowKit
def asgV (vars c : Nat) : Asg := fun u => c.testBit (vars - 1 - u)
def restr (F : Bdd.Fn) (i : Nat) (b : Bool) : Bdd.Fn := fun x => F (upd x i b)
theorem upd_comm (x : Asg) {u v : Nat} (a b : Bool) (h : u ≠ v) : upd (upd x u a) v b = upd (upd x v b) u a := by
  funext w; simp only [upd]
  by_cases e1 : w = v
  · subst e1; simp [Ne.symm h]
  · by_cases e2 : w = u
    · subst e2; simp [h]
    · simp [e1, e2]
theorem restr_above {vars : Nat} {ns : List Bdd.Node} (ok : Ok vars ns) {f i : Nat} (hf : f < ns.length) (hi : i < var ns f) (b : Bool) : restr (den ns f) i b = den ns f := by
  funext x
  exact indep ok f hf _ _ (fun u hu => upd_other x b (by omega))
theorem restr_indep {vars : Nat} {ns : List Bdd.Node} (ok : Ok vars ns) {f k : Nat} (hf : f < ns.length) (hk : k ≤ var ns f) (i : Nat) (b : Bool) : ∀ x y : Asg, (∀ u, k ≤ u → x u = y u) → restr (den ns f) i b x = restr (den ns f) i b y := fun x y h => by
  refine den_indep ok hf hk _ _ (fun u hu => ?_)
  simp only [upd]
  split
  · rfl
  · exact h u hu
theorem restr_lo {vars : Nat} {ns : List Bdd.Node} (ok : Ok vars ns) {f : Nat} {n : Bdd.Node} (hn : ns[f]? = some n) (h2 : 2 ≤ f) {i : Nat} (b : Bool) (hi : n.v ≠ i) : restr (den ns n.lo) i b = fun x => restr (den ns f) i b (upd x n.v false) := by
  funext x
  simp only [restr]
  rw [upd_comm x false b hi, den_lo ok hn h2]
theorem restr_hi {vars : Nat} {ns : List Bdd.Node} (ok : Ok vars ns) {f : Nat} {n : Bdd.Node} (hn : ns[f]? = some n) (h2 : 2 ≤ f) {i : Nat} (b : Bool) (hi : n.v ≠ i) : restr (den ns n.hi) i b = fun x => restr (den ns f) i b (upd x n.v true) := by
  funext x
  simp only [restr]
  rw [upd_comm x true b hi, den_hi ok hn h2]
def numVal (a : Nat) : Value := .int .i64 (a : Int)
def numDom (a : Nat) : Prop := a < 65536
theorem num_few : ∃ L : List Nat, L.length < 9223372036854775807 ∧ ∀ a, numDom a → a ∈ L := ⟨List.range 65536, by simp, fun a ha => List.mem_range.2 ha⟩
theorem numKeys : KeysOk Tryz.prog 3 numVal numDom :=
  ⟨int_keyed Tryz.underlying3, fun a ha => ⟨_, keyOf_int_mk Tryz.underlying3 (i64_wf a ha)⟩, fun a b h => by simp [numVal] at h; omega, num_few⟩
def SeenOk (A : St) (S : Nat → Option Value) (i : Nat) (b : Bool) : Prop :=
  ∀ f x, S f = some x → ∃ r : Nat, x = .int .i64 (r : Int) ∧ (A.full = false → f < A.ns.length ∧ r < A.ns.length ∧ den A.ns r = restr (den A.ns f) i b)
theorem SeenOk.ext {A A' : St} {S : Nat → Option Value} {i : Nat} {b : Bool} (h : SeenOk A S i b) (he : Ext A A') (hi : Inv A) : SeenOk A' S i b := fun f x hx => by
  obtain ⟨r, e, h1⟩ := h f x hx
  refine ⟨r, e, fun hf => ?_⟩
  obtain ⟨h2, h3, h4⟩ := h1 (he.notFull hf)
  exact ⟨Nat.lt_of_lt_of_le h2 he.len, Nat.lt_of_lt_of_le h3 he.len, by rw [he.den hi h3, he.den hi h2, h4]⟩
def Fs (g nb kb ib sb : Nat) (k : Nat) : Prop := Fp g nb kb ib k ∨ k = sb
structure WS (w : World) (B g nb kb ib sb : Nat) (T : Tri → Option Value) (i : Nat) (b : Bool) (w1 : World) (nb1 cap1 : Nat) (A1 : St) (K1 : Tri → Option Value) (S1 : Nat → Option Value) : Prop where
  ar : ArenaAt w1 B g nb1 kb ib cap1 A1 K1 T
  nbc : nb1 = nb ∨ w.heap.size ≤ nb1
  fm : Frm (Fs g nb kb ib sb) w w1
  sm : MapIs Tryz.prog 3 numVal numDom w1 sb S1
  sk : SeenOk A1 S1 i b
def WithP (w : World) (B g nb kb ib sb : Nat) (A : St) (T : Tri → Option Value) (i : Nat) (b : Bool) (F : Bdd.Fn) (k : Nat) (e : Ending) (W' : World) : Prop :=
  ∃ (r nb' cap' : Nat) (A' : St) (K' : Tri → Option Value) (S' : Nat → Option Value), e = .returned (.int .i64 (r : Int)) ∧ Res A A' r F k ∧ WS w B g nb kb ib sb T i b W' nb' cap' A' K' S'
theorem WS.trans {w : World} {B g nb kb ib sb : Nat} {T : Tri → Option Value} {i : Nat} {b : Bool} {w1 w2 : World} {nb1 cap1 nb2 cap2 : Nat} {A1 A2 : St} {K1 K2 : Tri → Option Value} {S1 S2 : Nat → Option Value}
    (hlt : nb < w.heap.size) (h : WS w B g nb kb ib sb T i b w1 nb1 cap1 A1 K1 S1) (h2 : WS w1 B g nb1 kb ib sb T i b w2 nb2 cap2 A2 K2 S2) : WS w B g nb kb ib sb T i b w2 nb2 cap2 A2 K2 S2 := by
  have hs := h.fm.size
  refine ⟨h2.ar, ?_, h.fm.trans h2.fm (fun k hk hS => ?_), h2.sm, h2.sk⟩
  · rcases h2.nbc with e | e
    · rw [e]; exact h.nbc
    · exact .inr (by omega)
  · rcases hS with (e | e | e | e) | e
    · exact .inl (.inl e)
    · rcases h.nbc with e' | e'
      · exact .inl (.inr (.inl (e.trans e')))
      · omega
    · exact .inl (.inr (.inr (.inl e)))
    · exact .inl (.inr (.inr (.inr e)))
    · exact .inr e
theorem WS.start {w : World} {B g nb kb ib sb cap : Nat} {A : St} {K T : Tri → Option Value} {S : Nat → Option Value} {i : Nat} {b : Bool} (h : ArenaAt w B g nb kb ib cap A K T) (hs : MapIs Tryz.prog 3 numVal numDom w sb S) (hk : SeenOk A S i b) : WS w B g nb kb ib sb T i b w nb cap A K S :=
  ⟨h, .inl rfl, Frm.refl _ _, hs, hk⟩
theorem WS.below {w : World} {B g nb kb ib sb : Nat} {T : Tri → Option Value} {i : Nat} {b : Bool} {w1 w2 : World} {nb1 cap1 : Nat} {A1 : St} {K1 : Tri → Option Value} {S1 : Nat → Option Value}
    (h : WS w B g nb kb ib sb T i b w1 nb1 cap1 A1 K1 S1) (hb : RowKit.Below w1.heap.size w1 w2) : WS w B g nb kb ib sb T i b w2 nb1 cap1 A1 K1 S1 :=
  ⟨h.ar.below hb, h.nbc, h.fm.trans (Frm.of_below hb) (fun _ _ h => h), h.sm.same (hb.block _ h.sm.lt), h.sk⟩
theorem WS.base {w w0 : World} {B g nb kb ib sb : Nat} {T : Tri → Option Value} {i : Nat} {b : Bool} {w1 : World} {nb1 cap1 : Nat} {A1 : St} {K1 : Tri → Option Value} {S1 : Nat → Option Value}
    (hb : RowKit.Below w.heap.size w w0) (h : WS w0 B g nb kb ib sb T i b w1 nb1 cap1 A1 K1 S1) : WS w B g nb kb ib sb T i b w1 nb1 cap1 A1 K1 S1 :=
  ⟨h.ar, h.nbc.imp id (fun h => by have := hb.size; omega), (Frm.of_below hb).trans h.fm (fun _ _ h => h), h.sm, h.sk⟩
theorem WS.block {w : World} {B g nb kb ib sb : Nat} {T : Tri → Option Value} {i : Nat} {b : Bool} {w1 : World} {nb1 cap1 : Nat} {A1 : St} {K1 : Tri → Option Value} {S1 : Nat → Option Value}
    (h : WS w B g nb kb ib sb T i b w1 nb1 cap1 A1 K1 S1) {N : Nat} (hN : N < w.heap.size) (hn : ¬ Fs g nb kb ib sb N) : w1.heap[N]? = w.heap[N]? := h.fm.block N hN hn
theorem with_inner {m : Nat} {i : Nat} {b : Bool}
    (ih : ∀ (w : World) (B g nb kb ib sb cap : Nat) (A : St) (K T : Tri → Option Value) (S : Nat → Option Value) (h : ArenaAt w B g nb kb ib cap A K T) (hs : MapIs Tryz.prog 3 numVal numDom w sb S) (hk : SeenOk A S i b) (hsb : ¬ Fp g nb kb ib sb) (f : Nat) (hf : f < A.ns.length) (hi : i < A.vars) (hm : f < m),
      Calls Tryz.prog 144 #[.pointer (some ⟨g, 0, none⟩), .int .i64 f, .int .i64 i, .bool b, .map (some sb)] w (WithP w B g nb kb ib sb A T i b (restr (den A.ns f) i b) (var A.ns f)))
    {w : World} {B g nb kb ib sb : Nat} {T : Tri → Option Value} {w1 : World} {nb1 cap1 : Nat} {A A1 : St} {K1 : Tri → Option Value} {S1 : Nat → Option Value} (hlt : nb < w.heap.size) (hsl : sb < w.heap.size) (hsb : ¬ Fp g nb kb ib sb)
    (h : WS w B g nb kb ib sb T i b w1 nb1 cap1 A1 K1 S1) (hA : Inv A) (he : Ext A A1) (f : Nat) (hf : f < A.ns.length) (hi : i < A.vars) (hm : f < m) :
    Calls Tryz.prog 144 #[.pointer (some ⟨g, 0, none⟩), .int .i64 f, .int .i64 i, .bool b, .map (some sb)] w1
      (fun e w2 => ∃ (r nb2 cap2 : Nat) (A2 : St) (K2 : Tri → Option Value) (S2 : Nat → Option Value), e = .returned (.int .i64 (r : Int)) ∧ Res A1 A2 r (restr (den A.ns f) i b) (var A.ns f) ∧ WS w B g nb kb ib sb T i b w2 nb2 cap2 A2 K2 S2) := by
  have hsb1 : ¬ Fp g nb1 kb ib sb := fun hS => by
    rcases hS with e | e | e | e
    · exact hsb (.inl e)
    · rcases h.nbc with e' | e'
      · exact hsb (.inr (.inl (e.trans e')))
      · omega
    · exact hsb (.inr (.inr (.inl e)))
    · exact hsb (.inr (.inr (.inr e)))
  refine (ih w1 B g nb1 kb ib sb cap1 A1 K1 T S1 h.ar h.sm h.sk hsb1 f (Nat.lt_of_lt_of_le hf he.len) (by rw [he.vars]; exact hi) hm).mono ?_
  rintro e w2 ⟨r, nb2, cap2, A2, K2, S2, he2, hr, hws⟩
  rw [he.den hA hf, he.var hf] at hr
  exact ⟨r, nb2, cap2, A2, K2, S2, he2, hr, h.trans hlt hws⟩
theorem made_ws {w : World} {B g nb kb ib sb : Nat} {T : Tri → Option Value} {i : Nat} {b : Bool} {w1 : World} {nb1 cap1 : Nat} {A A1 A2 : St} {K1 : Tri → Option Value} {S1 : Nat → Option Value} {F L H : Bdd.Fn} {v lo hi : Nat} (hlt : nb < w.heap.size) (hsl : sb < w.heap.size) (hsb : ¬ Fp g nb kb ib sb)
    (h : WS w B g nb kb ib sb T i b w1 nb1 cap1 A2 K1 S1) (hA : Inv A) (hv : v < A.vars) (hF : ∀ x y : Asg, (∀ u, v ≤ u → x u = y u) → F x = F y) (hL : L = fun x => F (upd x v false)) (hH : H = fun x => F (upd x v true)) (r1 : Res A A1 lo L (v + 1)) (r2 : Res A1 A2 hi H (v + 1)) :
    Calls Tryz.prog 139 #[.pointer (some ⟨g, 0, none⟩), .int .i64 v, .int .i64 lo, .int .i64 hi] w1
      (fun e w2 => ∃ (r nb2 cap2 : Nat) (A3 : St) (K2 : Tri → Option Value), e = .returned (.int .i64 (r : Int)) ∧ Res A A3 r F v ∧ WS w B g nb kb ib sb T i b w2 nb2 cap2 A3 K2 S1) := by
  have e1 := r1.ext.vars
  have e2 := r2.ext.vars
  have l1 := r1.lt
  have l2 := r2.lt
  have l12 := r2.ext.len
  have g1 := r1.ge
  have g2 := r2.ge
  rw [← r2.ext.var l1] at g1
  simp only [St.len] at l1 l2 l12
  refine (made_walk h.ar v lo hi (by omega) (by omega) l2 (by omega) (by omega)).mono ?_
  rintro e w2 ⟨x, nb2, cap2, A3, K2, rfl, hmade, har, hnb, hfm⟩
  have hres := res_node hA hv hF hL hH r1 r2 hmade
  have hx3 : Ext A2 A3 := hmade.ext r2.ext.inv (by omega) (by simp only [St.len]; omega) (by simp only [St.len]; omega) (by omega) (by omega)
  have hsl1 := h.sm.lt
  have hsn : ¬ Fp g nb1 kb ib sb := fun hS => by
    rcases hS with e | e | e | e
    · exact hsb (.inl e)
    · rcases h.nbc with e' | e'
      · exact hsb (.inr (.inl (e.trans e')))
      · omega
    · exact hsb (.inr (.inr (.inl e)))
    · exact hsb (.inr (.inr (.inr e)))
  exact ⟨x, nb2, cap2, A3, K2, rfl, hres, h.trans hlt ⟨har, hnb, hfm.mono (fun _ _ h => .inl h), h.sm.same (hfm.block _ hsl1 hsn), h.sk.ext hx3 h.ar.inv⟩⟩
theorem store_ws {w : World} {B g nb kb ib sb : Nat} {T : Tri → Option Value} {i : Nat} {b : Bool} {u w7 : World} {nb1 cap1 : Nat} {A A1 : St} {K1 : Tri → Option Value} {S1 : Nat → Option Value} {f r k : Nat} (hsl : sb < w.heap.size) (hsb : ¬ Fp g nb kb ib sb)
    (h : WS w B g nb kb ib sb T i b u nb1 cap1 A1 K1 S1) (hA : Inv A) (hf : f < A.ns.length) (hr : Res A A1 r (restr (den A.ns f) i b) k)
    (h7 : MapIs Tryz.prog 3 numVal numDom w7 sb (putM S1 f (.int .i64 (r : Int)))) (hg : u.grownBy w7 (some sb)) : WS w B g nb kb ib sb T i b w7 nb1 cap1 A1 K1 (putM S1 f (.int .i64 (r : Int))) := by
  have hs := h.fm.size
  obtain ⟨l1, l2, l3, l4, _⟩ := h.ar.lts
  have hbk : ∀ j, j < u.heap.size → j ≠ sb → w7.heap[j]? = u.heap[j]? := fun j hj hn => hg.block j hj (fun e => hn (Option.some.inj e))
  have n1 : g ≠ sb := fun e => hsb (.inl e.symm)
  have n2 : nb1 ≠ sb := fun e => by
    rcases h.nbc with e' | e'
    · exact hsb (.inr (.inl (by omega)))
    · omega
  have n3 : kb ≠ sb := fun e => hsb (.inr (.inr (.inl e.symm)))
  have n4 : ib ≠ sb := fun e => hsb (.inr (.inr (.inr e.symm)))
  refine ⟨h.ar.keep (hbk g l1 n1) (hbk nb1 l2 n2) (hbk kb l3 n3) (hbk ib l4 n4), h.nbc, h.fm.trans (Frm.of_grown (S := Fs g nb kb ib sb) hg (fun k hk _ => by cases hk; exact .inr rfl)) (fun _ _ h => h), h7, ?_⟩
  intro f' x hx
  by_cases e : f' = f
  · subst e
    rw [putM_same] at hx
    cases hx
    exact ⟨r, rfl, fun hnf => ⟨Nat.lt_of_lt_of_le hf hr.ext.len, hr.lt, by rw [hr.eq hnf, hr.ext.den hA hf]⟩⟩
  · rw [putM_other _ _ e] at hx
    exact h.sk f' x hx
theorem zeroI2 (w : World) : (zeroValue 3).run Tryz.prog w = .ok (.int .i64 0) w := by kernel_rfl
theorem with_walk (i : Nat) (b : Bool) (m : Nat) : ∀ (w : World) (B g nb kb ib sb cap : Nat) (A : St) (K T : Tri → Option Value) (S : Nat → Option Value) (h : ArenaAt w B g nb kb ib cap A K T) (hs : MapIs Tryz.prog 3 numVal numDom w sb S) (hk : SeenOk A S i b) (hsb : ¬ Fp g nb kb ib sb) (f : Nat) (hf : f < A.ns.length) (hi : i < A.vars) (hm : f < m),
    Calls Tryz.prog 144 #[.pointer (some ⟨g, 0, none⟩), .int .i64 f, .int .i64 i, .bool b, .map (some sb)] w (WithP w B g nb kb ib sb A T i b (restr (den A.ns f) i b) (var A.ns f)) := by
  induction m with
  | zero => intro w B g nb kb ib sb cap A K T S h hs hk hsb f hf hi hm; omega
  | succ m ih =>
    intro w B g nb kb ib sb cap A K T S h hs hk hsb f hf hi hm
    have IH := hide ih
    clear ih
    have ok := h.inv.ok
    have hlen := h.lenle
    have hvs := h.vs
    obtain ⟨l1, l2, l3, l4, l5⟩ := h.lts
    have ls := hs.lt
    obtain ⟨n, hn⟩ := get_of_lt hf
    have hvf : var A.ns f = n.v := var_some hn
    have hvle := var_le ok hf
    have c2 := h.c2
    have c5 := h.c5
    obtain ⟨d0, d1, d2⟩ := h.node hn
    have hb0 : RowKit.Below w.heap.size w (w.alloc (.cells #[.int .i64 n.v, .int .i64 n.lo, .int .i64 n.hi] 117)) := (RowKit.Below.refl _ _).alloc (Nat.le_refl _) _
    have HW0 := hide (WS.start h hs hk)
    have HW1 := hide ((WS.start h hs hk).below hb0)
    have HB0 := hide hb0
    have HLT := hide (And.intro l2 (And.intro ls hsb))
    rw [hvf]
    have HVF := hide hvf
    have HH := hide h
    cases hfull : A.full
    case true =>
      rw [hfull] at c5
      have HF := hide (show WithP w B g nb kb ib sb A T i b (restr (den A.ns f) i b) n.v (.returned (.int .i64 ((0 : Nat) : Int))) (w.alloc (.cells #[.int .i64 n.v, .int .i64 n.lo, .int .i64 n.hi] 117)) from
        ⟨0, nb, cap, A, K, S, rfl, res_full h.inv hfull (by omega), HW1.out⟩)
      clear h hs hk hsb ok hvf
      go_enter Tryz.func144, Tryz.ntmps144
      go_wp2
      go_ret
      exact HF.out
    rw [hfull] at c5
    have c5' : ∀ ob, (w.alloc ob).cell? ⟨g, 5, none⟩ = some (.bool false) := fun ob => (World.cell?_alloc_lt _ _ _ (by show g < _; omega)).trans c5
    by_cases h1 : i < n.v
    · have h1' : decide ((i : Int) < (n.v : Int)) = true := by simp; omega
      have HF := hide (show WithP w B g nb kb ib sb A T i b (restr (den A.ns f) i b) n.v (.returned (.int .i64 (f : Int))) (w.alloc (.cells #[.int .i64 n.v, .int .i64 n.lo, .int .i64 n.hi] 117)) from
        ⟨f, nb, cap, A, K, S, rfl, res_there h.inv hf (by omega) (fun _ => (restr_above ok hf (by omega) b).symm), HW1.out⟩)
      clear h hs hk hsb ok hvf
      go_enter Tryz.func144, Tryz.ntmps144
      go_wp2
      go_ret
      exact HF.out
    have h1' : decide ((i : Int) < (n.v : Int)) = false := by simp; omega
    by_cases h2 : n.v = i
    · have h2' : ((n.v : Int) == (i : Int)) = true := by simp; omega
      obtain ⟨r, hr⟩ : ∃ r, Bdd.part A.ns f i b = r := ⟨_, rfl⟩
      have hlt := part_lt ok hf hi b
      have hpv := part_var ok hf hi (by omega) b
      have hpd := part_den ok hf hi (by omega) b
      rw [hr] at hlt hpv hpd
      have HF := hide (fun w' (hb : RowKit.Below (w.alloc (.cells #[.int .i64 n.v, .int .i64 n.lo, .int .i64 n.hi] 117)).heap.size (w.alloc (.cells #[.int .i64 n.v, .int .i64 n.lo, .int .i64 n.hi] 117)) w') => show WithP w B g nb kb ib sb A T i b (restr (den A.ns f) i b) n.v (.returned (.int .i64 (r : Int))) w' from
        ⟨r, nb, cap, A, K, S, rfl, res_there h.inv hlt (by omega) (fun _ => by rw [hpd]; rfl), HW1.out.below hb⟩)
      have HP := hide (part_is (HW1.out.ar) f i b hf hr)
      clear h hs hk hsb ok hvf hpd hr h2
      go_enter Tryz.func144, Tryz.ntmps144
      go_wp2_with fail
      refine HP.out.mono ?_
      rintro e w' ⟨rfl, hb⟩
      have HFF := hide (HF.out _ hb)
      clear hb
      go_wp2
      go_ret
      exact HFF.out
    have h2' : ((n.v : Int) == (i : Int)) = false := by simp; omega
    have hdom : numDom f := by show f < _; omega
    have him := fun (ob : Obj) => ((hs.same (w' := w.alloc ob) (RowKit.Below.heap_alloc _ _ _ ls)).look numKeys Tryz.underlying142 (zeroI2 _) hdom).1
    cases ek : S f with
    | some x =>
      obtain ⟨r, rfl, hr⟩ := hk f x ek
      obtain ⟨_, hrl, hrd⟩ := hr hfull
      have hlk : ∀ ob, (Instr.lookup 142 (.map (some sb)) (.int .i64 f) true).run Tryz.prog (w.alloc ob) = .ok (.tuple #[.int .i64 r, .bool true]) (w.alloc ob) := fun ob => by
        have := him ob
        rw [ek] at this
        exact this
      have HF := hide (show WithP w B g nb kb ib sb A T i b (restr (den A.ns f) i b) n.v (.returned (.int .i64 (r : Int))) (w.alloc (.cells #[.int .i64 n.v, .int .i64 n.lo, .int .i64 n.hi] 117)) from
        ⟨r, nb, cap, A, K, S, rfl, res_there h.inv hrl (var_ge ok hrl (by omega) (fun x y hxy => by rw [hrd]; exact restr_indep ok hf (by omega) i b x y hxy)) (fun _ => hrd), HW1.out⟩)
      clear h hs hk hsb ok hvf him ek hr hrd
      go_enter Tryz.func144, Tryz.ntmps144
      go_wp2
      go_ret
      exact HF.out
    | none =>
      have hlk : ∀ ob, (Instr.lookup 142 (.map (some sb)) (.int .i64 f) true).run Tryz.prog (w.alloc ob) = .ok (.tuple #[.int .i64 0, .bool false]) (w.alloc ob) := fun ob => by
        have := him ob
        rw [ek] at this
        exact this
      have hf2 : 2 ≤ f := (var_lt_iff ok hf).1 (by omega)
      obtain ⟨hv, hl, hh, hne, g1, g2⟩ := ok.node f n hn hf2
      have HR1 := hide (restr_lo ok hn hf2 b h2)
      have HR2 := hide (restr_hi ok hn hf2 b h2)
      have HRI := hide (restr_indep ok hf (show n.v ≤ var A.ns f by omega) i b)
      have HNN := hide (show n.v < A.vars ∧ n.lo < f ∧ n.hi < f ∧ n.v + 1 ≤ var A.ns n.lo ∧ n.v + 1 ≤ var A.ns n.hi from ⟨hv, hl, hh, g1, g2⟩)
      have HFM := hide (And.intro hf (And.intro hi (And.intro hm hdom)))
      have HN := hide hn
      obtain ⟨nv, nlo, nhi⟩ := n
      simp only at *
      have hbx := heap_alloc_new w (.cells #[.int .i64 nv, .int .i64 nlo, .int .i64 nhi] 117)
      have hnN : ¬ Fs g nb kb ib sb w.heap.size := fun hS => by
        rcases hS with (e | e | e | e) | e <;> omega
      have hszN : w.heap.size < (w.alloc (.cells #[.int .i64 nv, .int .i64 nlo, .int .i64 nhi] 117)).heap.size := by simp
      have HBX := hide (And.intro hbx (And.intro hnN hszN))
      have HINV := hide h.inv
      clear h hs hk hsb ok hvf him ek hbx hnN hi hm hdom hn
      go_enter Tryz.func144, Tryz.ntmps144
      go_wp2
      clear hf c2 c5 c5' d0 d1 d2 hlk hfull h1 h2 h1' h2' hv hl hh hne g1 g2 hf2
      generalize hw0 : w.alloc _ = w0 at *
      obtain ⟨N, hN⟩ : ∃ N, w.heap.size = N := ⟨_, rfl⟩
      rw [hN] at HBX hszN ⊢
      clear hN hw0
      have x0 : w0.cell? ⟨N, 0, none⟩ = some (.int .i64 nv) := by rw [cell_of_row _ _ _ _ _ _ HBX.out.1]; rfl
      have x1 : w0.cell? ⟨N, 1, none⟩ = some (.int .i64 nlo) := by rw [cell_of_row _ _ _ _ _ _ HBX.out.1]; rfl
      have x2 : w0.cell? ⟨N, 2, none⟩ = some (.int .i64 nhi) := by rw [cell_of_row _ _ _ _ _ _ HBX.out.1]; rfl
      have HWA : Hid (WS w0 B g nb kb ib sb T i b w0 nb cap A K S) := hide (WS.start HW1.out.ar HW1.out.sm HW1.out.sk)
      have hlt0 : nb < w0.heap.size := Nat.lt_of_lt_of_le HLT.out.1 HB0.out.size
      have hls0 : sb < w0.heap.size := Nat.lt_of_lt_of_le HLT.out.2.1 HB0.out.size
      have HC1 := hide (fun w1 (hb : RowKit.Below w0.heap.size w0 w1) => with_inner IH.out hlt0 hls0 HLT.out.2.2 (HWA.out.below hb) HINV.out (Ext.refl HINV.out) nlo (by have := HNN.out; have := HFM.out.1; omega) HFM.out.2.1 (by have := HNN.out; have := HFM.out; omega))
      have HKEEP := hide (fun (w1 : World) nb1 cap1 A1 K1 S1 (hws : WS w0 B g nb kb ib sb T i b w1 nb1 cap1 A1 K1 S1) => show w1.cell? ⟨N, 0, none⟩ = some (.int .i64 nv) ∧ w1.cell? ⟨N, 1, none⟩ = some (.int .i64 nlo) ∧ w1.cell? ⟨N, 2, none⟩ = some (.int .i64 nhi) from by
        have e := (hws.block HBX.out.2.2 HBX.out.2.1).trans HBX.out.1
        exact ⟨by rw [cell_of_row _ _ _ _ _ _ e]; rfl, by rw [cell_of_row _ _ _ _ _ _ e]; rfl, by rw [cell_of_row _ _ _ _ _ _ e]; rfl⟩)
      go_region_held3 (fun w' => w'.cell? ⟨N, 0, none⟩ = some (.int .i64 nv) ∧ w'.cell? ⟨N, 1, none⟩ = some (.int .i64 nlo) ∧ w'.cell? ⟨N, 2, none⟩ = some (.int .i64 nhi)) (go_keep)
        (first
          | (go_at_call_of 144 (Value.int IntKind.i64 (nlo : Int)); refine (HC1.out _ (by exact ⟨rfl, rfl, rfl, Nat.le_refl _, fun _ _ => rfl⟩)).mono ?_; rintro e wa ⟨lo', nb1, cap1, A1, K1, S1, rfl, hr1, hw1⟩; have HW1a := hide hw1; have HRa := hide hr1; have HC2 := hide (fun w1 (hb : RowKit.Below wa.heap.size wa w1) => with_inner IH.out hlt0 hls0 HLT.out.2.2 (HW1a.out.below hb) HINV.out HRa.out.ext nhi (by have := HNN.out; have := HFM.out.1; omega) HFM.out.2.1 (by have := HNN.out; have := HFM.out; omega)); clear hw1 hr1 x0 x1 x2; obtain ⟨x0, x1, x2⟩ := HKEEP.out _ _ _ _ _ _ HW1a.out)
          | (go_at_call_of 144 (Value.int IntKind.i64 (nhi : Int)); refine (HC2.out _ (by first | exact RowKit.Below.refl _ _ | exact ⟨rfl, rfl, rfl, Nat.le_refl _, fun _ _ => rfl⟩)).mono ?_; rintro e wb ⟨hi', nb2, cap2, A2, K2, S2, rfl, hr2, hw2⟩; have HW2 := hide hw2; have HRb := hide hr2; clear hw2 hr2 x0 x1 x2; obtain ⟨x0, x1, x2⟩ := HKEEP.out _ _ _ _ _ _ HW2.out)
          | (go_at_call 139; have HC3 := hide (fun w1 (hb : RowKit.Below wb.heap.size wb w1) => made_ws hlt0 hls0 HLT.out.2.2 (HW2.out.below hb) HINV.out HNN.out.1 HRI.out rfl rfl ((HR1.out ▸ HRa.out).mono HNN.out.2.2.2.1) ((HR2.out ▸ (HRb.out)).mono HNN.out.2.2.2.2)); refine (HC3.out _ (by first | exact RowKit.Below.refl _ _ | exact ⟨rfl, rfl, rfl, Nat.le_refl _, fun _ _ => rfl⟩)).mono ?_; rintro e wc ⟨r, nb3, cap3, A3, K3, rfl, hr3, hw3⟩; have HW3 := hide hw3; have HRc := hide hr3; clear hw3 hr3 x0 x1 x2 HC3; obtain ⟨x0, x1, x2⟩ := HKEEP.out _ _ _ _ _ _ HW3.out))
      all_goals
        clear x0 x1 x2
        go_wp2_with (at_mapUpdate; refine wpList_storeM _ rfl (.tmp 69) (.tmp 70) (.tmp 71) 142 rfl 3 numKeys Tryz.underlying142 rfl (HW3.out.sm.same (w' := _) rfl) f HFM.out.2.2.2 rfl (.int .i64 (r : Int)) rfl ?_; intro w7 hk7 hg7)
        have HE := hide (show WithP w B g nb kb ib sb A T i b (restr (den A.ns f) i b) nv (.returned (.int .i64 (r : Int))) w7 from
          ⟨r, nb3, cap3, A3, K3, _, rfl, HRc.out, (store_ws hls0 HLT.out.2.2 HW3.out HINV.out HFM.out.1 HRc.out hk7 ⟨hg7.os, hg7.tape, hg7.output, hg7.size, hg7.block⟩).base HB0.out⟩)
        clear hk7 hg7
        go_wp2
        go_ret
        exact HE.out
def WF (A : St) (r : Nat) (F : Bdd.Fn) : Prop := r < A.ns.length ∧ (A.full = false → den A.ns r = F)
theorem WF.ext {A A' : St} {r : Nat} {F : Bdd.Fn} (h : WF A r F) (i : Inv A) (he : Ext A A') : WF A' r F :=
  ⟨Nat.lt_of_lt_of_le h.1 he.len, fun hf => (he.den i h.1).trans (h.2 (he.notFull hf))⟩
theorem WF.of {A : St} {r : Nat} {F : Bdd.Fn} (h : IsF A r F) : WF A r F := ⟨h.1, fun _ => h.2⟩
section
variable {w : World} {B g nb kb ib : Nat} {A : St} {c : Nat} {w1 w2 : World} {nb1 cap1 : Nat} {A1 : St} {K1 T1 : Tri → Option Value}
end
theorem put_walk {w : World} {B g nb kb ib cap : Nat} {A : St} {K T : Tri → Option Value} (h : ArenaAt w B g nb kb ib cap A K T) (f i : Nat) (b : Bool) (hf : f < A.ns.length) (hi : i < A.vars) :
    Calls Tryz.prog 141 #[.pointer (some ⟨g, 0, none⟩), .int .i64 f, .int .i64 i, .bool b] w (IteP w B g nb kb ib A (restr (den A.ns f) i b) (var A.ns f)) := by
  obtain ⟨l1, l2, l3, l4, _⟩ := h.lts
  have hb0 : RowKit.Below w.heap.size w (w.alloc (.map #[] 0)) := (RowKit.Below.refl _ _).alloc (Nat.le_refl _) _
  have hsb : ¬ Fp g nb kb ib w.heap.size := fun hS => by rcases hS with e | e | e | e <;> omega
  have HC := hide (with_walk i b (f + 1) _ B g nb kb ib w.heap.size cap A K T (fun _ => none) (h.below hb0) (MapIs.made w) (fun f x hx => by cases hx) hsb f hf hi (Nat.lt_succ_self _))
  have HB0 := hide hb0
  have hmm := @run_makeMap Tryz.prog
  clear h hb0 hsb hf hi
  go_enter Tryz.func141, Tryz.ntmps141
  go_wp2_with fail
  refine HC.out.mono ?_
  rintro e w2 ⟨r, nb', cap', A', K', S', rfl, hr, hws⟩
  have HF := hide (show IteP w B g nb kb ib A (restr (den A.ns f) i b) (var A.ns f) (.returned (.int .i64 (r : Int))) w2 from
    ⟨r, nb', cap', A', K', T, rfl, hr, hws.ar, hws.nbc.imp id (fun h => by have := HB0.out.size; omega), (Frm.of_below HB0.out).trans hws.fm (fun k hk hS => by
      rcases hS with hS | e
      · exact hS
      · omega)⟩)
  clear hr hws
  go_wp2
  go_ret
  exact HF.out
section
variable {w : World} {B g nb kb ib : Nat} {A : St} {c : Nat} {w1 w2 : World} {nb1 cap1 : Nat} {A1 : St} {K1 T1 : Tri → Option Value}
end
theorem doneSt_id {A : St} (h : A.full = false) : doneSt A = A := by cases A; simp_all [doneSt]
def existsF (F : Bdd.Fn) (i : Nat) : Bdd.Fn := iteF (restr F i false) (fun _ => true) (restr F i true)
def swapF (F : Bdd.Fn) (i j : Nat) : Bdd.Fn := fun x => F (upd (upd x j (x i)) i (x j))
theorem ints2 (w : World) (B N : Nat) (hB : N < B) (i j : Int) (hi : -9223372036854775808 ≤ i ∧ i ≤ 9223372036854775807) (hj : -9223372036854775808 ≤ j ∧ j ≤ 9223372036854775807) (t : TypeId) {w1 : World} (h : w1.heap[N]? = some (.cells #[.int .i64 i, .int .i64 j] t (0, 0))) :
    IntsAt w1 B (some ⟨N, 0, none⟩) 2 [i, j] := by
  refine ⟨rfl, fun x hx => ?_, fun _ => ⟨_, 0, rfl, hB, fun k x hx => ?_⟩⟩
  · simp only [List.mem_cons, List.mem_nil_iff, or_false] at hx
    rcases hx with rfl | rfl
    · exact hi
    · exact hj
  · rw [cell_of_row _ _ _ _ _ _ h]
    match k, hx with
    | 0, hx => cases hx; rfl
    | 1, hx => cases hx; rfl
theorem ints1N (N B : Nat) (hB : N < B) (i : Int) (hi : -9223372036854775808 ≤ i ∧ i ≤ 9223372036854775807) (t : TypeId) {w1 : World} (h : w1.heap[N]? = some (.cells #[.int .i64 i] t (0, 0))) :
    IntsAt w1 B (some ⟨N, 0, none⟩) 1 [i] := by
  refine ⟨rfl, fun x hx => ?_, fun _ => ⟨_, 0, rfl, hB, fun k x hx => ?_⟩⟩
  · simp only [List.mem_cons, List.mem_nil_iff, or_false] at hx
    rw [hx]; exact hi
  · rw [cell_of_row _ _ _ _ _ _ h]
    match k, hx with
    | 0, hx => cases hx; rfl
theorem ask2 {w : World} {B g nb kb ib cap : Nat} {A : St} {K T : Tri → Option Value} (h : ArenaAt w B g nb kb ib cap A K T) (o0 o1 : Obj) : RowKit.Below w.heap.size w ((w.alloc o0).alloc o1) ∧ ArenaAt ((w.alloc o0).alloc o1) B g nb kb ib cap A K T := by
  have hb : RowKit.Below w.heap.size w ((w.alloc o0).alloc o1) := ((RowKit.Below.refl _ _).alloc (Nat.le_refl _) _).alloc (by simp) _
  exact ⟨hb, h.below hb⟩
def cntF (vars m : Nat) (F : Bdd.Fn) : Nat := (List.range (2 ^ m)).countP (fun r => F (asgV vars r))
theorem cntF_le (vars m : Nat) (F : Bdd.Fn) : cntF vars m F ≤ 2 ^ m := by
  have := List.countP_le_length (p := fun r => F (asgV vars r)) (l := List.range (2 ^ m))
  simpa [cntF] using this
theorem cntF_false (vars m : Nat) : cntF vars m (fun _ => false) = 0 := by simp [cntF]
theorem cntF_true (vars m : Nat) : cntF vars m (fun _ => true) = 2 ^ m := by simp [cntF]
theorem cntF_succ (vars m : Nat) (F : Bdd.Fn) : cntF vars (m + 1) F = cntF vars m F + (List.range (2 ^ m)).countP (fun r => F (asgV vars (2 ^ m + r))) := by
  have : 2 ^ (m + 1) = 2 ^ m + 2 ^ m := by rw [Nat.pow_succ]; omega
  rw [cntF, this, List.range_add, List.countP_append, List.countP_map]
  rfl
theorem asgV_hi {vars m r u : Nat} (hm : m + 1 ≤ vars) (hr : r < 2 ^ m) (hu : vars - m ≤ u) (hu2 : u < vars) : asgV vars (2 ^ m + r) u = asgV vars r u := by
  unfold asgV
  rw [Nat.testBit_two_pow_add_gt (by omega)]
theorem cnt_congr {l : List Nat} {p q : Nat → Bool} (h : ∀ r ∈ l, p r = q r) : l.countP p = l.countP q := List.countP_congr (fun r hr => by rw [h r hr])
theorem cntF_widen {vars m : Nat} {F : Bdd.Fn} (hm : m + 1 ≤ vars) (hB : Bdd.Below vars F) (hF : ∀ x y : Asg, (∀ u, vars - m ≤ u → x u = y u) → F x = F y) : cntF vars (m + 1) F = 2 * cntF vars m F := by
  rw [cntF_succ, Nat.two_mul]
  congr 1
  refine cnt_congr (fun r hr => ?_)
  have hr := List.mem_range.1 hr
  have e1 := hB (asgV vars (2 ^ m + r)) (fun u => if u < vars then asgV vars (2 ^ m + r) u else asgV vars r u) (fun u hu => by simp [hu])
  rw [e1]
  refine hF _ _ (fun u hu => ?_)
  by_cases h : u < vars
  · simp only [h, if_true]; exact asgV_hi hm hr hu h
  · simp [h]
theorem cntF_widen' {vars k : Nat} {F : Bdd.Fn} (hB : Bdd.Below vars F) (hF : ∀ x y : Asg, (∀ u, k ≤ u → x u = y u) → F x = F y) (hk : k ≤ vars) : ∀ d, d ≤ k → cntF vars (vars - k + d) F = cntF vars (vars - k) F * 2 ^ d := by
  intro d
  induction d with
  | zero => intro _; simp
  | succ d ih =>
    intro hd
    rw [← Nat.add_assoc, cntF_widen (by omega) hB (fun x y h => hF x y (fun u hu => h u (by omega))), ih (by omega), Nat.pow_succ, Nat.mul_left_comm, Nat.mul_comm 2]
theorem cntF_node {vars : Nat} {ns : List Bdd.Node} (ok : Ok vars ns) {f : Nat} {n : Bdd.Node} (hf : f < ns.length) (hn : ns[f]? = some n) (h2 : 2 ≤ f) :
    cntF vars (vars - n.v) (den ns f) = cntF vars (vars - (n.v + 1)) (den ns n.lo) + cntF vars (vars - (n.v + 1)) (den ns n.hi) := by
  obtain ⟨hv, hl, hh, hne, g1, g2⟩ := ok.node f n hn h2
  obtain ⟨m, hm⟩ : ∃ m, vars - n.v = m + 1 := ⟨vars - n.v - 1, by omega⟩
  have hm' : vars - (n.v + 1) = m := by omega
  rw [hm, hm', cntF_succ]
  have hlt : n.lo < ns.length := by omega
  have hht : n.hi < ns.length := by omega
  congr 1
  · refine cnt_congr (fun r hr => ?_)
    have hr := List.mem_range.1 hr
    rw [den_node ok hn h2]
    have : asgV vars r n.v = false := by
      show r.testBit (vars - 1 - n.v) = false
      rw [show vars - 1 - n.v = m by omega]
      exact Nat.testBit_lt_two_pow hr
    rw [this]; rfl
  · refine cnt_congr (fun r hr => ?_)
    have hr := List.mem_range.1 hr
    rw [den_node ok hn h2]
    have : asgV vars (2 ^ m + r) n.v = true := by
      show (2 ^ m + r).testBit (vars - 1 - n.v) = true
      rw [show vars - 1 - n.v = m by omega, Nat.testBit_two_pow_add_eq, Nat.testBit_lt_two_pow hr]; rfl
    rw [this]
    show den ns n.hi (asgV vars (2 ^ m + r)) = den ns n.hi (asgV vars r)
    have hB := den_below ok _ hht
    have e1 := hB (asgV vars (2 ^ m + r)) (fun u => if u < vars then asgV vars (2 ^ m + r) u else asgV vars r u) (fun u hu => by simp [hu])
    rw [e1]
    refine indep ok n.hi hht _ _ (fun u hu => ?_)
    by_cases h : u < vars
    · simp only [h, if_true]; exact asgV_hi (by omega) hr (by omega) h
    · simp [h]
def SeenC (A : St) (S : Nat → Option Value) : Prop := ∀ f x, S f = some x → 2 ≤ f ∧ f < A.ns.length ∧ x = .int .i64 ((cntF A.vars (A.vars - var A.ns f) (den A.ns f) : Nat) : Int)
structure CS (w : World) (sb : Nat) (A : St) (w1 : World) (S1 : Nat → Option Value) : Prop where
  sm : MapIs Tryz.prog 3 numVal numDom w1 sb S1
  sk : SeenC A S1
  fm : Frm (fun k => k = sb) w w1
def CntP (w : World) (sb : Nat) (A : St) (c : Nat) (e : Ending) (W' : World) : Prop := e = .returned (.int .i64 (c : Int)) ∧ ∃ S', CS w sb A W' S'
theorem CS.trans {w w1 w2 : World} {sb : Nat} {A : St} {S1 S2 : Nat → Option Value} (h : CS w sb A w1 S1) (h2 : CS w1 sb A w2 S2) : CS w sb A w2 S2 := ⟨h2.sm, h2.sk, h.fm.trans h2.fm (fun _ _ h => h)⟩
theorem CS.below {w w1 w2 : World} {sb : Nat} {A : St} {S1 : Nat → Option Value} (h : CS w sb A w1 S1) (hb : RowKit.Below w1.heap.size w1 w2) : CS w sb A w2 S1 :=
  ⟨h.sm.same (hb.block _ h.sm.lt), h.sk, h.fm.trans (Frm.of_below hb) (fun _ _ h => h)⟩
theorem CS.base {w w0 w1 : World} {sb : Nat} {A : St} {S1 : Nat → Option Value} (hb : RowKit.Below w.heap.size w w0) (h : CS w0 sb A w1 S1) : CS w sb A w1 S1 := ⟨h.sm, h.sk, (Frm.of_below hb).trans h.fm (fun _ _ h => h)⟩
theorem CS.arena {w w1 : World} {B g nb kb ib sb cap : Nat} {A : St} {K T : Tri → Option Value} {S1 : Nat → Option Value} (h : CS w sb A w1 S1) (ha : ArenaAt w B g nb kb ib cap A K T) (hsb : ¬ Fp g nb kb ib sb) : ArenaAt w1 B g nb kb ib cap A K T :=
  ha.frm h.fm (fun k hk hF => by subst hk; exact hsb hF)
theorem CS.store {w u w7 : World} {sb f : Nat} {A : St} {S1 : Nat → Option Value} (h : CS w sb A u S1) (hf2 : 2 ≤ f) (hf : f < A.ns.length) (hk7 : MapIs Tryz.prog 3 numVal numDom w7 sb (putM S1 f (.int .i64 ((cntF A.vars (A.vars - var A.ns f) (den A.ns f) : Nat) : Int)))) (hg : u.grownBy w7 (some sb)) :
    CS w sb A w7 (putM S1 f (.int .i64 ((cntF A.vars (A.vars - var A.ns f) (den A.ns f) : Nat) : Int))) := by
  refine ⟨hk7, fun f' x hx => ?_, h.fm.trans (Frm.of_grown (S := fun k => k = sb) hg (fun k hk _ => by cases hk; rfl)) (fun _ _ h => h)⟩
  by_cases e : f' = f
  · subst e
    rw [putM_same] at hx
    cases hx
    exact ⟨hf2, hf, rfl⟩
  · rw [putM_other _ _ e] at hx
    exact h.sk f' x hx
theorem shl_nat (c d : Nat) (h : c * 2 ^ d ≤ 65536) : wrap64 ((c : Int) * 2 ^ d) = ((c * 2 ^ d : Nat) : Int) := by
  have e : (c : Int) * 2 ^ d = ((c * 2 ^ d : Nat) : Int) := by simp
  rw [e]
  generalize c * 2 ^ d = x at *
  unfold wrap64; omega
theorem pow_le16 {m : Nat} (h : m ≤ 16) : 2 ^ m ≤ 65536 := (Nat.pow_le_pow_right (by omega) h : 2 ^ m ≤ 2 ^ 16)
theorem count_walk (m : Nat) : ∀ (w : World) (B g nb kb ib sb cap : Nat) (A : St) (K T : Tri → Option Value) (S : Nat → Option Value) (h : ArenaAt w B g nb kb ib cap A K T) (hs : MapIs Tryz.prog 3 numVal numDom w sb S) (hk : SeenC A S) (hsb : ¬ Fp g nb kb ib sb) (f v : Nat) (hf : f < A.ns.length) (hv : v ≤ var A.ns f) (hm : f < m),
    Calls Tryz.prog 75 #[.pointer (some ⟨g, 0, none⟩), .int .i64 f, .int .i64 v, .map (some sb)] w (CntP w sb A (cntF A.vars (A.vars - v) (den A.ns f))) := by
  induction m with
  | zero => intro w B g nb kb ib sb cap A K T S h hs hk hsb f v hf hv hm; omega
  | succ m ih =>
    intro w B g nb kb ib sb cap A K T S h hs hk hsb f v hf hv hm
    have IH := hide ih
    clear ih
    have ok := h.inv.ok
    have hlen := h.lenle
    have hvs := h.vs
    obtain ⟨l1, l2, l3, l4, l5⟩ := h.lts
    have ls := hs.lt
    obtain ⟨n, hn⟩ := get_of_lt hf
    have hvf : var A.ns f = n.v := var_some hn
    have hvle := var_le ok hf
    have c2 := h.c2
    have c0 := h.c0
    obtain ⟨d0, d1, d2⟩ := h.node hn
    have hb0 : RowKit.Below w.heap.size w (w.alloc (.cells #[.int .i64 n.v, .int .i64 n.lo, .int .i64 n.hi] 117)) := (RowKit.Below.refl _ _).alloc (Nat.le_refl _) _
    have HW1 := hide (CS.below (CS.mk hs hk (Frm.refl _ _)) hb0)
    have HB0 := hide hb0
    by_cases e0 : f = 0
    · subst e0
      have HF := hide (show CntP w sb A (cntF A.vars (A.vars - v) (den A.ns 0)) (.returned (.int .i64 0)) (w.alloc (.cells #[.int .i64 n.v, .int .i64 n.lo, .int .i64 n.hi] 117)) from
        ⟨by rw [den_zero, cntF_false]; rfl, S, HW1.out⟩)
      clear h hs hk hsb ok hvf
      go_enter Tryz.func75, Tryz.ntmps75
      go_wp2
      go_ret
      exact HF.out
    have e0' : ((f : Int) == 0) = false := by simp; omega
    by_cases e1 : f = 1
    · subst e1
      have c0' : ∀ ob, (w.alloc ob).cell? ⟨g, 0, none⟩ = some (.int .i64 A.vars) := fun ob => (World.cell?_alloc_lt _ _ _ (by show g < _; omega)).trans c0
      have hvv : v ≤ A.vars := by rw [var_one ok] at hv; exact hv
      have htn : ((A.vars : Int) - (v : Int)).toNat = A.vars - v := by omega
      have HF := hide (show CntP w sb A (cntF A.vars (A.vars - v) (den A.ns 1)) (.returned (.int .i64 (wrap64 (2 ^ (A.vars - v))))) (w.alloc (.cells #[.int .i64 n.v, .int .i64 n.lo, .int .i64 n.hi] 117)) from
        ⟨by rw [den_one, cntF_true, wrap_pow _ (by omega)]; simp, S, HW1.out⟩)
      clear h hs hk hsb ok hvf
      go_enter Tryz.func75, Tryz.ntmps75
      go_wp2
      go_ret
      exact HF.out
    have e1' : ((f : Int) == 1) = false := by simp; omega
    have hf2 : 2 ≤ f := by omega
    obtain ⟨hnv, hl, hh, hne, g1, g2⟩ := ok.node f n hn hf2
    have HC := hide (cntF_node ok hf hn hf2)
    have hcle := cntF_le A.vars (A.vars - n.v) (den A.ns f)
    have hpw := pow_le16 (m := A.vars - n.v) (by omega)
    have hpw2 := pow_le16 (m := A.vars - v) (by omega)
    have hcv := cntF_le A.vars (A.vars - v) (den A.ns f)
    have HWD := hide (show cntF A.vars (A.vars - v) (den A.ns f) = cntF A.vars (A.vars - n.v) (den A.ns f) * 2 ^ (n.v - v) from by
      have := cntF_widen' (vars := A.vars) (k := n.v) (F := den A.ns f) (den_below ok f hf) (fun x y hxy => indep ok f hf x y (fun u hu => hxy u (by omega))) (by omega) (n.v - v) (by omega)
      rw [show A.vars - n.v + (n.v - v) = A.vars - v by omega] at this
      exact this)
    have HSH := hide (shl_nat (cntF A.vars (A.vars - n.v) (den A.ns f)) (n.v - v) (by rw [← HWD.out]; omega))
    have htn : ((n.v : Int) - (v : Int)).toNat = n.v - v := by omega
    have hnvv : v ≤ n.v := by omega
    have hdom : numDom f := by show f < _; omega
    have him := fun (ob : Obj) => ((hs.same (w' := w.alloc ob) (RowKit.Below.heap_alloc _ _ _ ls)).look numKeys Tryz.underlying142 (zeroI2 _) hdom).1
    cases ek : S f with
    | some x =>
      obtain ⟨_, _, rfl⟩ := hk f x ek
      rw [hvf] at ek
      have hlk : ∀ ob, (Instr.lookup 142 (.map (some sb)) (.int .i64 f) true).run Tryz.prog (w.alloc ob) = .ok (.tuple #[.int .i64 (cntF A.vars (A.vars - n.v) (den A.ns f) : Nat), .bool true]) (w.alloc ob) := fun ob => by
        have := him ob
        rw [ek] at this
        exact this
      have HF := hide (show CntP w sb A (cntF A.vars (A.vars - v) (den A.ns f)) (.returned (.int .i64 (wrap64 ((cntF A.vars (A.vars - n.v) (den A.ns f) : Nat) * 2 ^ (n.v - v))))) (w.alloc (.cells #[.int .i64 n.v, .int .i64 n.lo, .int .i64 n.hi] 117)) from
        ⟨by rw [HSH.out, HWD.out], S, HW1.out⟩)
      clear h hs hk hsb ok hvf him ek
      generalize cntF A.vars (A.vars - n.v) (den A.ns f) = cc at *
      go_enter Tryz.func75, Tryz.ntmps75
      go_wp2
      go_ret
      exact HF.out
    | none =>
      have hlk : ∀ ob, (Instr.lookup 142 (.map (some sb)) (.int .i64 f) true).run Tryz.prog (w.alloc ob) = .ok (.tuple #[.int .i64 0, .bool false]) (w.alloc ob) := fun ob => by
        have := him ob
        rw [ek] at this
        exact this
      obtain ⟨nv, nlo, nhi⟩ := n
      simp only at *
      generalize ha : cntF A.vars (A.vars - (nv + 1)) (den A.ns nlo) = ca at *
      generalize hb : cntF A.vars (A.vars - (nv + 1)) (den A.ns nhi) = cb at *
      have hab : ca + cb ≤ 65536 := by rw [← HC.out]; omega
      have hbx := heap_alloc_new w (.cells #[.int .i64 nv, .int .i64 nlo, .int .i64 nhi] 117)
      have hszN : w.heap.size < (w.alloc (.cells #[.int .i64 nv, .int .i64 nlo, .int .i64 nhi] 117)).heap.size := by simp
      have HBX := hide (And.intro hbx (And.intro (show w.heap.size ≠ sb by omega) hszN))
      have HAR := hide (h.below hb0)
      have HFM := hide (And.intro hf (And.intro hf2 (And.intro hm (And.intro hdom hsb))))
      have HCAB := hide (And.intro ha hb)
      have HVF := hide hvf
      have HNV := hide (And.intro g1 g2)
      have hl' : nlo < f := hl
      have hh' : nhi < f := hh
      clear h hs hk hsb ok hvf him ek hbx hm hdom hn ha hb hb0 hcle hpw hpw2 hcv g1 g2 hl hh
      go_enter Tryz.func75, Tryz.ntmps75
      go_wp2
      clear c2 c0 d0 d1 d2 hlk e0 e1 e0' e1'
      generalize hw0 : w.alloc _ = w0 at *
      obtain ⟨N, hN⟩ : ∃ N, w.heap.size = N := ⟨_, rfl⟩
      rw [hN] at HBX hszN ⊢
      clear hN hw0
      have x0 : w0.cell? ⟨N, 0, none⟩ = some (.int .i64 nv) := by rw [cell_of_row _ _ _ _ _ _ HBX.out.1]; rfl
      have x1 : w0.cell? ⟨N, 1, none⟩ = some (.int .i64 nlo) := by rw [cell_of_row _ _ _ _ _ _ HBX.out.1]; rfl
      have x2 : w0.cell? ⟨N, 2, none⟩ = some (.int .i64 nhi) := by rw [cell_of_row _ _ _ _ _ _ HBX.out.1]; rfl
      have HWA : Hid (CS w0 sb A w0 S) := hide ⟨HW1.out.sm, HW1.out.sk, Frm.refl _ _⟩
      have hc1 : ((nv + 1 : Nat) : Int) = (nv : Int) + 1 := by omega
      have HIN := hide (fun (x : Nat) (c : Nat) (hx : x < f) (hxv : nv + 1 ≤ var A.ns x) (hcc : cntF A.vars (A.vars - (nv + 1)) (den A.ns x) = c) (wa : World) (S1 : Nat → Option Value) (hcs : CS w0 sb A wa S1) =>
        show Calls Tryz.prog 75 #[.pointer (some ⟨g, 0, none⟩), .int .i64 x, .int .i64 ((nv : Int) + 1), .map (some sb)] wa (fun e w2 => e = .returned (.int .i64 (c : Int)) ∧ ∃ S', CS w0 sb A w2 S') from
        hcc ▸ hc1 ▸ (IH.out wa B g nb kb ib sb cap A K T S1 (hcs.arena HAR.out HFM.out.2.2.2.2) hcs.sm hcs.sk HFM.out.2.2.2.2 x (nv + 1) (by have := HFM.out.1; omega) hxv (by have := HFM.out.2.2.1; omega)).mono (fun e w2 ⟨he, S', hS⟩ => ⟨he, S', hcs.trans hS⟩))
      have HKEEP := hide (fun (w1 : World) S1 (hws : CS w0 sb A w1 S1) => show w1.cell? ⟨N, 0, none⟩ = some (.int .i64 nv) ∧ w1.cell? ⟨N, 1, none⟩ = some (.int .i64 nlo) ∧ w1.cell? ⟨N, 2, none⟩ = some (.int .i64 nhi) from by
        have e := (hws.fm.block N HBX.out.2.2 HBX.out.2.1).trans HBX.out.1
        exact ⟨by rw [cell_of_row _ _ _ _ _ _ e]; rfl, by rw [cell_of_row _ _ _ _ _ _ e]; rfl, by rw [cell_of_row _ _ _ _ _ _ e]; rfl⟩)
      have HLO := hide (HIN.out nlo ca hl' HNV.out.1 HCAB.out.1)
      have HHI := hide (HIN.out nhi cb hh' HNV.out.2 HCAB.out.2)
      clear hc1
      have s1 : IntKind.i64.wrap ((nv : Int) + 1) = (nv : Int) + 1 := IntWalk.i64_in _ (by omega)
      have s2 : IntKind.i64.wrap ((ca : Int) + (cb : Int)) = (ca : Int) + (cb : Int) := IntWalk.i64_in _ (by omega)
      go_region_held3 (fun w' => w'.cell? ⟨N, 0, none⟩ = some (.int .i64 nv) ∧ w'.cell? ⟨N, 1, none⟩ = some (.int .i64 nlo) ∧ w'.cell? ⟨N, 2, none⟩ = some (.int .i64 nhi)) (go_keep)
        (first
          | (go_at_call_of 75 (Value.int IntKind.i64 (nlo : Int)); refine (HLO.out _ S (by exact HWA.out.below ⟨rfl, rfl, rfl, Nat.le_refl _, fun _ _ => rfl⟩)).mono ?_; rintro e wa ⟨rfl, S1, hcs1⟩; have HS1 := hide hcs1; clear hcs1 x0 x1 x2; obtain ⟨x0, x1, x2⟩ := HKEEP.out _ _ HS1.out)
          | (go_at_call_of 75 (Value.int IntKind.i64 (nhi : Int)); refine (HHI.out _ S1 (by exact HS1.out.below ⟨rfl, rfl, rfl, Nat.le_refl _, fun _ _ => rfl⟩)).mono ?_; rintro e wb ⟨rfl, S2, hcs2⟩; have HS2 := hide hcs2; clear hcs2 x0 x1 x2; obtain ⟨x0, x1, x2⟩ := HKEEP.out _ _ HS2.out))
      all_goals
        clear x0 x1 x2 s1 s2
        have HVV := hide (show Value.int .i64 ((cntF A.vars (A.vars - var A.ns f) (den A.ns f) : Nat) : Int) = .int .i64 ((ca : Int) + (cb : Int)) from by rw [HVF.out, HC.out]; simp)
        go_wp2_with (at_mapUpdate; refine wpList_storeM _ rfl (.tmp 55) (.tmp 56) (.tmp 57) 142 rfl 3 numKeys Tryz.underlying142 rfl (HS2.out.sm.same (w' := _) rfl) f HFM.out.2.2.2.1 rfl (.int .i64 ((ca : Int) + (cb : Int))) rfl ?_; intro w7 hk7 hg7; have HS7 := hide (HS2.out.store HFM.out.2.1 HFM.out.1 (HVV.out.symm ▸ hk7) ⟨hg7.os, hg7.tape, hg7.output, hg7.size, hg7.block⟩); clear hk7 hg7; obtain ⟨x0, x1, x2⟩ := HKEEP.out _ _ HS7.out)
        have HE := hide (show CntP w sb A (cntF A.vars (A.vars - v) (den A.ns f)) (.returned (.int .i64 (wrap64 (((ca : Int) + (cb : Int)) * 2 ^ (nv - v))))) w7 from
          ⟨by rw [HWD.out, ← HSH.out, HC.out]; simp, _, HS7.out.base HB0.out⟩)
        go_ret
        exact HE.out
theorem opCount_walk {w : World} {B g nb kb ib cap : Nat} {A : St} {K T : Tri → Option Value} (h : ArenaAt w B g nb kb ib cap A K T) (f : Nat) (hf : f < A.ns.length) :
    Calls Tryz.prog 42 #[.pointer (some ⟨g, 0, none⟩), .int .i64 f] w fun e W' => e = .returned (.tuple #[.int .i64 (cntF A.vars A.vars (den A.ns f) : Nat), .int .i64 0]) ∧ RowKit.Below w.heap.size w W' := by
  have hlen := h.lenle
  obtain ⟨l1, l2, l3, l4, l5⟩ := h.lts
  have hb0 : RowKit.Below w.heap.size w (w.alloc (.cells #[.int .i64 f] 3)) := (RowKit.Below.refl _ _).alloc (Nat.le_refl _) _
  have HA0 := hide (h.below hb0)
  have HI := hide (ints1 w (w.alloc (.cells #[.int .i64 f] 3)).heap.size (by simp) f (by omega) 3 (heap_alloc_new w _))
  have HOK := hide (show AskOk A [(f : Int)] [] from ⟨fun x hx => by
    simp only [List.mem_cons, List.mem_nil_iff, or_false] at hx
    rw [hx]; omega, fun x hx => (by cases hx)⟩)
  have HB0 := hide hb0
  have HC := hide (fun (w1 : World) (hb : RowKit.Below w.heap.size w w1) => by
    have hs := hb.size
    have hb1 : RowKit.Below w1.heap.size w1 (w1.alloc (.map #[] 0)) := (RowKit.Below.refl _ _).alloc (Nat.le_refl _) _
    have hsb : ¬ Fp g nb kb ib w1.heap.size := fun hS => by rcases hS with e | e | e | e <;> omega
    exact (count_walk (f + 1) (w1.alloc (.map #[] 0)) B g nb kb ib w1.heap.size cap A K T (fun _ => none) ((h.below hb).below hb1) (MapIs.made w1) (fun f x hx => by cases hx) hsb f 0 hf (Nat.zero_le _) (Nat.lt_succ_self _)))
  have hmm := @run_makeMap Tryz.prog
  clear h hf hb0
  go_enter Tryz.func42, Tryz.ntmps42
  go_wp2_with fail
  refine (ask_walk HA0.out [(f : Int)] [] _ none 1 0 1 0 (by omega) (by omega) HI.out (IntsAt.nil _ _ _)).mono ?_
  rintro e wa ⟨he, _, hb⟩
  obtain rfl := he HOK.out
  have HB := hide (HB0.out.trans (hb.mono HB0.out.size))
  have hsa := HB.out.size
  clear he hb HI HA0
  go_wp2_with fail
  refine (HC.out _ HB.out).mono ?_
  rintro e wb ⟨rfl, S', hS⟩
  have HF := hide (HB.out.trans (((RowKit.Below.refl _ wa).alloc (Nat.le_refl _) (.map #[] 0)).trans (hS.fm.below (B := wa.heap.size) (by simp) (fun i hi => by omega)) |>.mono hsa))
  clear hS
  go_wp2
  go_ret2
  exact ⟨rfl, HF.out⟩
end Go.Proofs.YtifkacnoiocebaaGreat
