/- A part of the proof: RegE, Mk. -/
import Derived.Test.YtklbdfgblebniaaDs6
import Derived.StillTailTactics
import Derived.Deep.RegionHeld3

set_option linter.unusedVariables false
set_option linter.unusedSimpArgs false
namespace Go.Proofs.Ytklbdfgblebniaa

structure ClosedL (md : Region.Mode) (ops : Array Oper) (listed : Array Bool) : Prop where
  size : listed.size = ops.size
  closed : ∀ j oj, ops[j]? = some oj → listed.getD j false = true → ∀ e ∈ oj.after, Region.binds md e = true → listed.getD e.on false = true

def chainOk (md : Region.Mode) (ops : Array Oper) : List Nat → Bool
  | i :: j :: r => Region.waitsFor md ops j i && chainOk md ops (j :: r)
  | _ => true

section
variable {P : Program} {ops : Array Oper} {Q : Exit → Act → World → Prop} {md : Region.Mode} {S : World → Prop} {s : Nat}

theorem ClosedL.set {i : Nat} {listed : Array Bool} (inv : ClosedL md ops listed) (hi : i ∈ Region.ready md ops listed) : ClosedL md ops (listed.setIfInBounds i true) := by
  obtain ⟨_, oi, hoi, hall⟩ := mem_ready.1 hi
  refine ⟨by simp [inv.size], fun j oj hj hl e he hb => ?_⟩
  by_cases hij : i = j
  · subst hij
    have : oj = oi := Option.some.inj (hj.symm.trans hoi)
    subst this
    exact getD_set_true (hall e he hb)
  · rw [getD_set_ne false hij] at hl
    exact getD_set_true (inv.closed j oj hj hl e he hb)

theorem chain_back {listed : Array Bool} (inv : ClosedL md ops listed) : ∀ (c : List Nat) (i s : Nat), chainOk md ops (i :: c) = true → (i :: c).getLast? = some s → listed.getD s false = true → listed.getD i false = true
  | [], i, s, _, hl, h => by simp at hl; rw [hl]; exact h
  | j :: r, i, s, hc, hl, h => by
    simp only [chainOk, Bool.and_eq_true] at hc
    have h1 := chain_back inv r j s hc.2 (by simpa using hl) h
    obtain ⟨oj, hoj, e, he, hb, hon⟩ := Region.waitsFor_spec hc.1
    have := inv.closed j oj hoj h1 e he hb
    rwa [hon] at this

theorem chain_unlisted {listed : Array Bool} (inv : ClosedL md ops listed) {c : List Nat} {i : Nat} (hc : chainOk md ops (i :: c) = true) (hl : (i :: c).getLast? = some s) (hs : s < ops.size) (hi : listed.getD i true = false) : listed.getD s true = false := by
  cases h : listed.getD s false with
  | true => have := chain_back inv c i s hc hl h; rw [getD_both hi] at this; cases this
  | false => exact getD_in (by rw [inv.size]; exact hs) h

def wpAnyE (P : Program) (md : Region.Mode) (ops : Array Oper) (Q : Exit → Act → World → Prop) (S : World → Prop) (s : Nat) : Nat → Array Bool → Act → World → Prop
  | 0, listed, a, w => Region.ready md ops listed = [] ∧ Q .normal a w
  | fuel + 1, listed, a, w =>
    (Region.ready md ops listed = [] → Q .normal a w) ∧
    ∀ i ∈ Region.ready md ops listed, wpOp P ops Q i (fun a' w' => ((listed.setIfInBounds i true).getD s true = false → S w') ∧ wpAnyE P md ops Q S s fuel (listed.setIfInBounds i true) a' w') a w

theorem wpAny_of_E : ∀ (fuel : Nat) (listed : Array Bool) (a : Act) (w : World), wpAnyE P md ops Q S s fuel listed a w → wpAny P md ops Q fuel listed a w
  | 0, _, _, _, h => h
  | fuel + 1, _, _, _, h => ⟨h.1, fun i hi => wpOp_mono (fun a' w' h' => wpAny_of_E fuel _ a' w' h'.2) (h.2 i hi)⟩

theorem wpAnyE_first {i : Nat} {oi : Oper} {v : Value} {S' : World → Prop} (hi : ops[i]? = some oi) (hsel : ∀ (j : Nat) (o : Oper) cs b, ops[j]? = some o → o.op ≠ .select cs b) (his : i ≠ s)
    (hS' : ∀ (listed : Array Bool) (w : World), ClosedL md ops listed → listed.getD i true = false → (listed.getD s true = false → S w) → S' w)
    (hQ : ∀ c a w, Q (.panic c) (a.put oi.dst v) w → Q (.panic c) a w) :
    ∀ (fuel : Nat) (listed : Array Bool) (a : Act) (w : World), ClosedL md ops listed →
      (∀ j oj, ops[j]? = some oj → j ≠ i → listed.getD j true = false → (∀ e ∈ oj.after, Region.binds md e = true → e.on ≠ i) → oi.apart ops oj = true) →
      i ∈ Region.ready md ops listed → YieldsIf P ops S' oi v a → (listed.getD s true = false → S w) →
      wpAnyE P md ops Q S s fuel (listed.setIfInBounds i true) (a.put oi.dst v) w → wpAnyE P md ops Q S s (fuel + 1) listed a w := by
  have same : ∀ (l : Array Bool), (l.setIfInBounds i true).getD s true = l.getD s true := fun l => getD_set_ne true his
  intro fuel
  induction fuel with
  | zero =>
    intro listed a w inv _ hr hy hS H
    have hun := (mem_ready.1 hr).1
    refine ⟨fun h => (by rw [h] at hr; cases hr), fun j hj => ?_⟩
    by_cases hji : j = i
    · subst hji; exact hy.wpOp hi (hS' listed w inv hun hS) ⟨fun h => hS (by rwa [same] at h), H⟩
    · have := ready_mono hj hji
      rw [H.1] at this
      cases this
  | succ fuel ih =>
    intro listed a w inv hfree hr hy hS H
    have hun := (mem_ready.1 hr).1
    refine ⟨fun h => (by rw [h] at hr; cases hr), fun j hj => ?_⟩
    by_cases hji : j = i
    · subst hji; exact hy.wpOp hi (hS' listed w inv hun hS) ⟨fun h => hS (by rwa [same] at h), H⟩
    · have h1 := H.2 j (ready_mono hj hji)
      obtain ⟨hjun, oj, hoj, hall⟩ := mem_ready.1 hj
      have hnot : ∀ e ∈ oj.after, Region.binds md e = true → e.on ≠ i := fun e he hb heq => by
        have h1 := hall e he hb
        rw [heq, getD_both hun] at h1
        cases h1
      have h2 := wpOp_putIf hoj (hfree j oj hoj hji hjun hnot) (fun cs b => hsel i oi cs b hi) (fun cs b => hsel j oj cs b hoj) hQ hy h1
      have hfree' : ∀ k ok, ops[k]? = some ok → k ≠ i → (listed.setIfInBounds j true).getD k true = false →
          (∀ e ∈ ok.after, Region.binds md e = true → e.on ≠ i) → oi.apart ops ok = true := fun k ok hk hki hun hno => by
        refine hfree k ok hk hki ?_ hno
        by_cases hjk : j = k
        · subst hjk; exact hjun
        · rw [getD_set_ne true hjk] at hun; exact hun
      refine wpOp_mono (fun a' w' h3 => ?_) h2
      have hS2 : (listed.setIfInBounds j true).getD s true = false → S w' := fun h => h3.2.1 (by rw [Array.setIfInBounds_comm _ _ (Ne.symm hji), same]; exact h)
      refine ⟨hS2, ih (listed.setIfInBounds j true) a' w' (inv.set hj) hfree' (ready_mono hr (Ne.symm hji)) h3.1 hS2 ?_⟩
      rw [Array.setIfInBounds_comm _ _ hji]
      exact h3.2.2

theorem wpAnyE_load {i : Nat} {oi : Oper} {v : Value} {fuel : Nat} {listed : Array Bool} {a : Act} {w : World} (c : List Nat) (hi0 : ops.toList[i]? = some oi) (hs : Region.noSelect ops = true) (hf : Region.free md ops listed i = true)
    (hr : (Region.ready md ops listed).contains i = true) (his : decide (i ≠ s) && decide (s < ops.size) && chainOk md ops (i :: c) && decide ((i :: c).getLast? = some s) = true) (hQ : ∀ c a w, Q (.panic c) (a.put oi.dst v) w → Q (.panic c) a w) (inv : Shut (ClosedL md ops listed)) (hy : YieldsIf P ops S oi v a) (hS : S w)
    (h : Shut (ClosedL md ops (listed.setIfInBounds i true)) → wpAnyE P md ops Q S s fuel (listed.setIfInBounds i true) (a.put oi.dst v) w) : wpAnyE P md ops Q S s (fuel + 1) listed a w := by
  have hi : ops[i]? = some oi := by simpa using hi0
  simp only [Bool.and_eq_true, decide_eq_true_eq] at his
  have hr' : i ∈ Region.ready md ops listed := by simpa using hr
  exact wpAnyE_first hi (Region.noSelect_spec hs) his.1.1.1 (fun l w inv hun hS => hS (chain_unlisted inv his.1.2 his.2 his.1.1.2 hun)) hQ fuel listed a w inv.out (Region.free_spec hi hf) hr' hy (fun _ => hS) (h (inv.out.set hr'))

theorem wpAnyE_pure {i : Nat} {oi : Oper} {v : Value} {fuel : Nat} {listed : Array Bool} {a : Act} {w : World} (hi0 : ops.toList[i]? = some oi) (hs : Region.noSelect ops = true) (hf : Region.free md ops listed i = true)
    (hr : (Region.ready md ops listed).contains i = true) (his : decide (i ≠ s) = true) (hQ : ∀ c a w, Q (.panic c) (a.put oi.dst v) w → Q (.panic c) a w) (inv : Shut (ClosedL md ops listed)) (hy : YieldsIf P ops (fun _ => True) oi v a) (hS : listed.getD s true = false → S w)
    (h : Shut (ClosedL md ops (listed.setIfInBounds i true)) → wpAnyE P md ops Q S s fuel (listed.setIfInBounds i true) (a.put oi.dst v) w) : wpAnyE P md ops Q S s (fuel + 1) listed a w := by
  have hi : ops[i]? = some oi := by simpa using hi0
  have hr' : i ∈ Region.ready md ops listed := by simpa using hr
  exact wpAnyE_first hi (Region.noSelect_spec hs) (by simpa using his) (fun _ _ _ _ _ => trivial) hQ fuel listed a w inv.out (Region.free_spec hi hf) hr' hy hS (h (inv.out.set hr'))

theorem wpAnyE_one {i : Nat} {o : Oper} {fuel : Nat} {listed : Array Bool} {a : Act} {w : World} (ho0 : ops.toList[i]? = some o) (hr : Region.ready md ops listed = [i]) (inv : Shut (ClosedL md ops listed))
    (h : ∀ K' : Act → World → Prop, Shut (∀ a w, ((listed.setIfInBounds i true).getD s true = false → S w) → (Shut (ClosedL md ops (listed.setIfInBounds i true)) → wpAnyE P md ops Q S s fuel (listed.setIfInBounds i true) a w) → K' a w) → if Region.wanted o (yielded ops a.tmps) = true then Oper.wp P o a w K' Q else K' (a.put o.dst undef) w) :
    wpAnyE P md ops Q S s (fuel + 1) listed a w := by
  have ho : ops[i]? = some o := by simpa using ho0
  have hi : i ∈ Region.ready md ops listed := by rw [hr]; simp
  refine ⟨fun h0 => (by rw [h0] at hr; cases hr), fun j hj => ?_⟩
  rw [hr] at hj
  have : j = i := by simpa using hj
  subst this
  exact wpOp_step ho (fun K hK => h K (fun a w hS hW => hK a w ⟨hS, hW (inv.out.set hi)⟩))

theorem wpAnyE_late {i : Nat} {o : Oper} {fuel : Nat} {listed : Array Bool} {a : Act} {w : World} (ho0 : ops.toList[i]? = some o) (hr : Region.ready md ops listed = [i]) (inv : Shut (ClosedL md ops listed)) (hx : (listed.setIfInBounds i true).getD s true = true)
    (h : ∀ K' : Act → World → Prop, Shut (∀ a w, (Shut (ClosedL md ops (listed.setIfInBounds i true)) → wpAnyE P md ops Q S s fuel (listed.setIfInBounds i true) a w) → K' a w) → if Region.wanted o (yielded ops a.tmps) = true then Oper.wp P o a w K' Q else K' (a.put o.dst undef) w) :
    wpAnyE P md ops Q S s (fuel + 1) listed a w := by
  have ho : ops[i]? = some o := by simpa using ho0
  have hi : i ∈ Region.ready md ops listed := by rw [hr]; simp
  refine ⟨fun h0 => (by rw [h0] at hr; cases hr), fun j hj => ?_⟩
  rw [hr] at hj
  have : j = i := by simpa using hj
  subst this
  exact wpOp_step ho (fun K hK => h K (fun a w hW => hK a w ⟨fun h => (by rw [hx] at h; cases h), hW (inv.out.set hi)⟩))

theorem wpAnyE_done {listed : Array Bool} {a : Act} {w : World} (hr : Region.ready md ops listed = []) (h : Q .normal a w) : ∀ fuel, wpAnyE P md ops Q S s fuel listed a w
  | 0 => ⟨hr, h⟩
  | _ + 1 => ⟨fun _ => h, by rw [hr]; simp⟩

theorem wp_region_E {id : Nat} {a : Act} {w : World} (S : World → Prop) (s : Nat) (hm : P.follows .mixedOrders = true) (hS : S w.drew)
    (h : S w.drew → Shut (ClosedL .any ops (Array.replicate ops.size false)) → wpAnyE P .any ops Q S s ops.size (Array.replicate ops.size false) a w.drew) : (Code.region id ops true).wp P Q a w :=
  wp_region_any hm (wpAny_of_E _ _ _ _ (h hS (show ClosedL .any ops (Array.replicate ops.size false) from ⟨by simp, fun j oj _ hl => (by rw [getD_replicate_false] at hl; cases hl)⟩)))
end
end Go.Proofs.Ytklbdfgblebniaa

set_option linter.unusedVariables false
set_option linter.unusedSimpArgs false
namespace Go.Proofs.Ytklbdfgblebniaa
open Go.RowKit Go.Maps Bdd

def NwP (P : Bdd.Fn → Prop) (A A' : St) : Prop := ∀ j, A.len ≤ j → j < A'.len → P (den A'.ns j)
theorem NwP.refl (P : Bdd.Fn → Prop) (A : St) : NwP P A A := fun j h1 h2 => by omega
theorem NwP.trans {P : Bdd.Fn → Prop} {A B C : St} (h : NwP P A B) (k : NwP P B C) (i : Inv B) (he : Ext B C) : NwP P A C := fun j h1 h2 => by
  rcases Nat.lt_or_ge j B.len with hl | hl
  · rw [he.den i hl]; exact h j h1 hl
  · exact k j hl h2
def AQ (w : World) (B g : Nat) (A : St) (bl : List Nat) (P : Bdd.Fn → Prop) (F : Bdd.Fn) (e : Ending) (w' : World) : Prop :=
  ∃ A', AS w' B g A' bl ∧ Ext A A' ∧ NwP P A A' ∧ KP B bl w w' ∧ BRes A' F e

section
variable {w w' : World} {B g : Nat} {A : St} {bl : List Nat} {P : Bdd.Fn → Prop}
theorem AQ.of_bp {nb kb ib cap : Nat} {K T : Tri → Option Value} (ha : ArenaAt w B g nb kb ib cap A K T) (hf : ∀ j ∈ bl, B ≤ j ∧ j < w.heap.size ∧ ¬ Fp g nb kb ib j) {F : Bdd.Fn} {e : Ending} (h : BP w B g nb kb ib A F P e w') : AQ w B g A bl P F e w' := by
  obtain ⟨nb2, cap2, A2, K2, T2, h1, h2, h3, h4, h5, h6, h7⟩ := h
  refine ⟨A2, ⟨⟨nb2, kb, ib, cap2, K2, T2, h4, fun j hj => ⟨(hf j hj).1, Nat.lt_of_lt_of_le (hf j hj).2.1 h6.size, fpNew h5 (hf j hj).2.1 (hf j hj).2.2⟩⟩, h2⟩, h1, h3, ⟨ha.frmBelow h6, fun j hj => h6.block j (hf j hj).2.1 (hf j hj).2.2⟩, ?_⟩
  rcases h7 with ⟨r, a, b, c⟩ | h7
  · exact .inl ⟨r, a, b, c⟩
  · exact .inr h7
theorem AQ.of_opT {nb kb ib cap : Nat} {K T : Tri → Option Value} (ha : ArenaAt w B g nb kb ib cap A K T) (hf : ∀ j ∈ bl, B ≤ j ∧ j < w.heap.size ∧ ¬ Fp g nb kb ib j) {F : Bdd.Fn} {e : Ending} (h : OpT w B g nb kb ib A F P e w') : AQ w B g A bl P F e w' := by
  obtain ⟨nb2, cap2, A2, K2, T2, hm, h2, h7⟩ := h.cases
  exact ⟨A2, ⟨⟨nb2, kb, ib, cap2, K2, T2, hm.ar, fun j hj => ⟨(hf j hj).1, Nat.lt_of_lt_of_le (hf j hj).2.1 hm.fm.size, fpNew hm.nbc (hf j hj).2.1 (hf j hj).2.2⟩⟩, h2⟩, hm.ext, hm.nw, ⟨ha.frmBelow hm.fm, fun j hj => hm.fm.block j (hf j hj).2.1 (hf j hj).2.2⟩, h7⟩

theorem aq_and (h : AS w B g A bl) {f a : Nat} {F G : Bdd.Fn} (hf : IsF A f F) (ha : IsF A a G) (hP : PC P (andF F G)) : Calls Try.prog 79 #[.pointer (some ⟨g, 0, none⟩), .int .i64 f, .int .i64 a] w (AQ w B g A bl P (andF F G)) := by
  obtain ⟨nb, kb, ib, cap, K, T, har, hb⟩ := h.ar
  exact (opAnd_bp har h.nf hf ha hP).mono fun e w' hq => AQ.of_bp har hb hq
theorem aq_or (h : AS w B g A bl) {f a : Nat} {F G : Bdd.Fn} (hf : IsF A f F) (ha : IsF A a G) (hP : PC P (orF F G)) : Calls Try.prog 85 #[.pointer (some ⟨g, 0, none⟩), .int .i64 f, .int .i64 a] w (AQ w B g A bl P (orF F G)) := by
  obtain ⟨nb, kb, ib, cap, K, T, har, hb⟩ := h.ar
  exact (opOr_bp har h.nf hf ha hP).mono fun e w' hq => AQ.of_bp har hb hq
theorem aq_not (h : AS w B g A bl) {f : Nat} {F : Bdd.Fn} (hf : IsF A f F) (hP : PC P (notF F)) : Calls Try.prog 28 #[.pointer (some ⟨g, 0, none⟩), .int .i64 f] w (AQ w B g A bl P (notF F)) := by
  obtain ⟨nb, kb, ib, cap, K, T, har, hb⟩ := h.ar
  exact (opNot_bp har h.nf hf hP).mono fun e w' hq => AQ.of_bp har hb hq
theorem aq_exists (h : AS w B g A bl) {f i : Nat} {F : Bdd.Fn} (hf : IsF A f F) (hi : i < A.vars) (h1 : PC P (restr F i false)) (h2 : PC P (restr F i true)) (h3 : PC P (existsF F i)) :
    Calls Try.prog 88 #[.pointer (some ⟨g, 0, none⟩), .int .i64 f, .int .i64 i] w (AQ w B g A bl P (existsF F i)) := by
  obtain ⟨nb, kb, ib, cap, K, T, har, hb⟩ := h.ar
  exact (opExists_p har h.nf f i F hf hi h1 h2 h3).mono fun e w' hq => AQ.of_opT har hb hq
theorem aq_swap (h : AS w B g A bl) {f i j : Nat} {F : Bdd.Fn} (hf : IsF A f F) (hi : i < A.vars) (hj : j < A.vars) (hij : i ≠ j) (hP : SwapPC P F i j) :
    Calls Try.prog 87 #[.pointer (some ⟨g, 0, none⟩), .int .i64 f, .int .i64 i, .int .i64 j] w (AQ w B g A bl P (swapF F i j)) := by
  obtain ⟨nb, kb, ib, cap, K, T, har, hb⟩ := h.ar
  exact (opSwap_diff_p har h.nf f i j F hf hi hj hij hP).mono fun e w' hq => AQ.of_opT har hb hq
theorem aq_acl (h : AS w B g A bl) (hv : 14 ≤ A.vars) (l : List RuleV) (a : Option Addr) (n c : Nat) (hn : n ≤ 8) (hl : RulesAt w B a n l) (hR : ∀ r ∈ l, ∀ G, NewB (ruleL r) G → P G) (hS : ∀ k G, Cof (aclF (l.drop k)) G → P G) :
    Calls Try.prog 27 #[.pointer (some ⟨g, 0, none⟩), .slice a n c] w (AQ w B g A bl P (aclF l)) := by
  obtain ⟨nb, kb, ib, cap, K, T, har, hb⟩ := h.ar
  exact (aclBuild_walk har h.nf hv l a n c hn hl P hR hS).mono fun e w' hq => AQ.of_bp har hb hq
theorem aq_fib (h : AS w B g A bl) (hv : 14 ≤ A.vars) (l : List RouteV) (a : Option Addr) (n c : Nat) (port : Int) (hn : n ≤ 9223372036854775807) (hnc : n ≤ c) (hl : SlAt RouteV.cells 3 w w.heap.size a n l) (hok : ∀ r ∈ l, r.ok) (hc : checkF l = 0)
    (hP : ∀ G, NewB (partL 65535 (setTo (dstB l port) 16) 255 255) G → P G) :
    Calls Try.prog 68 #[.pointer (some ⟨g, 0, none⟩), .slice a n c, .int .i64 port] w (AQ w B g A bl P (outs (partL 65535 (setTo (dstB l port) 16) 255 255))) := by
  obtain ⟨nb, kb, ib, cap, K, T, har, hb⟩ := h.ar
  exact (fibBuild_walk har h.nf hv l a n c port hn hnc hl hok hc).mono fun e w' hq => AQ.of_bp har hb (hq.mono hP)
theorem aq_match (h : AS w B g A bl) (hv : 14 ≤ A.vars) (s d p q : Nat) (hs : s < 65536) (hd : d < 65536) (hp : p < 256) (hq : q < 256) (hP : ∀ G, NewB (partL s d p q) G → P G) :
    Calls Try.prog 53 #[.pointer (some ⟨g, 0, none⟩), .agg #[.int .u16 s, .int .u16 d, .int .u8 p, .int .u8 q]] w (AQ w B g A bl P (outs (partL s d p q))) := by
  obtain ⟨nb, kb, ib, cap, K, T, har, hb⟩ := h.ar
  exact (build_walk har h.nf hv s d p q hs hd hp hq).mono fun e w' hq => AQ.of_bp har hb (hq.mono hP)
end

structure MK (w : World) (B g : Nat) (A : St) (bl : List Nat) (mk e : Nat) : Prop where
  sa : AS w B g A (mk :: bl)
  bx : Bx w mk #[.pointer (some ⟨g, 0, none⟩), .int .i64 (e : Int)] 70
  er : e = 0 ∨ (e = 6 ∧ A.len = A.most)
  ap : mk ∉ bl
def MR (w : World) (B g : Nat) (A : St) (bl : List Nat) (mk e : Nat) (P : Bdd.Fn → Prop) (F : Bdd.Fn) (en : Ending) (w' : World) : Prop :=
  ∃ (A' : St) (e' r : Nat), en = .returned (.int .i64 (r : Int)) ∧ MK w' B g A' bl mk e' ∧ Ext A A' ∧ NwP P A A' ∧ KP B bl w w' ∧ (e' = 0 → e = 0 ∧ IsF A' r F)

section
variable {w w' : World} {B g mk e : Nat} {A : St} {bl : List Nat} {P : Bdd.Fn → Prop}
theorem MK.below (h : MK w B g A bl mk e) (hb : RowKit.Below w.heap.size w w') : MK w' B g A bl mk e := ⟨h.sa.below hb, h.bx.below hb, h.er, h.ap⟩
theorem MK.kp (h : MK w B g A bl mk e) (hb : RowKit.Below w.heap.size w w') : KP B bl w w' := (h.sa.kp hb).mono (fun j hj => List.mem_cons_of_mem _ hj)
theorem MK.inv (h : MK w B g A bl mk e) : Inv A := h.sa.inv
theorem MK.full_ext {A' : St} (h : Inv A') (he : Ext A A') (hf : A.len = A.most) : A'.len = A'.most := by
  have h1 := h.bound
  have h2 := he.len
  have h3 := he.most
  simp only [St.len] at *
  omega
end

theorem MK.wrote {w : World} {B g mk e0 : Nat} {A : St} {bl : List Nat} (h : MK w B g A bl mk e0) (e2 : Nat) (he2 : e2 = 0 ∨ (e2 = 6 ∧ A.len = A.most)) :
    MK (w.setCell ⟨mk, 1, none⟩ (.int .i64 (e2 : Int))) B g A bl mk e2 ∧ KP B bl w (w.setCell ⟨mk, 1, none⟩ (.int .i64 (e2 : Int))) := by
  have hm := h.sa.lt mk (by simp)
  have hs := size_setCell w ⟨mk, 1, none⟩ (.int .i64 (e2 : Int))
  have hc : ∀ i, i ≠ mk → (w.setCell ⟨mk, 1, none⟩ (.int .i64 (e2 : Int))).heap[i]? = w.heap[i]? := fun i hi => RowKit.Below.heap_setCell _ _ _ _ hi
  exact ⟨⟨h.sa.turned (Nat.le_of_eq hs.symm) (fun i _ hn => hc i (fun e => hn (by simp [e]))), h.bx.set 1 _, he2, h.ap⟩, ⟨(RowKit.Below.refl _ _).setCell hm.1 _, fun j hj => hc j (fun e => h.ap (e ▸ hj))⟩⟩

set_option maxRecDepth 100000 in
set_option maxHeartbeats 4000000 in

theorem got_walk (w : World) (B g : Nat) (A : St) (bl : List Nat) (mk : Nat) (h : MK w B g A bl mk 0) (f e2 : Nat) (he2 : e2 = 0 ∨ (e2 = 6 ∧ A.len = A.most)) :
    Calls Try.prog 65 #[.pointer (some ⟨mk, 0, none⟩), .int .i64 (f : Int), .int .i64 (e2 : Int)] w fun en w' => en = .returned (.int .i64 (if e2 = 0 then (f : Int) else 0)) ∧ MK w' B g A bl mk e2 ∧ KP B bl w w' := by
  have c0 : w.cell? ⟨mk, 0, none⟩ = some (.pointer (some ⟨g, 0, none⟩)) := h.bx.get 0 _ rfl
  have c1 : w.cell? ⟨mk, 1, none⟩ = some (.int .i64 0) := h.bx.get 1 _ rfl
  have cf := h.bx.frozen 1
  have HX := hide (h.wrote e2 he2)
  clear h
  rcases he2 with rfl | ⟨rfl, hf⟩
  · go_enter Try.func65, Try.ntmps65
    go_wp2
    go_ret
    exact ⟨rfl, HX.out⟩
  · clear hf
    go_enter Try.func65, Try.ntmps65
    go_wp2
    go_ret
    exact ⟨rfl, HX.out⟩

theorem MR.of_got {w w1 w2 : World} {B g mk : Nat} {A A1 : St} {bl : List Nat} {P : Bdd.Fn → Prop} {F : Bdd.Fn} {e2 f : Nat} {en : Ending} (hext : Ext A A1) (hnw : NwP P A A1) (hk : KP B bl w w1) (hF : e2 = 0 → IsF A1 f F)
    (h : en = .returned (.int .i64 (if e2 = 0 then (f : Int) else 0)) ∧ MK w2 B g A1 bl mk e2 ∧ KP B bl w1 w2) : MR w B g A bl mk 0 P F en w2 := by
  refine ⟨A1, e2, if e2 = 0 then f else 0, ?_, h.2.1, hext, hnw, hk.trans h.2.2, fun he => ⟨rfl, by rw [if_pos he]; exact hF he⟩⟩
  rw [h.1]
  split <;> rfl

theorem MR.none {w : World} {B g mk e : Nat} {A : St} {bl : List Nat} (P : Bdd.Fn → Prop) (F : Bdd.Fn) (h : MK w B g A bl mk e) (he : e ≠ 0) : MR w B g A bl mk e P F (.returned (.int .i64 0)) w :=
  ⟨A, e, 0, rfl, h, Ext.refl h.inv, NwP.refl _ _, KP.refl _ _ _, fun h0 => absurd h0 he⟩

set_option maxRecDepth 100000 in
set_option maxHeartbeats 4000000 in
theorem mk_and (w : World) (B g : Nat) (A : St) (bl : List Nat) (mk e : Nat) (h : MK w B g A bl mk e) (f a : Nat) (F G : Bdd.Fn) (P : Bdd.Fn → Prop) (hf : e = 0 → IsF A f F) (ha : e = 0 → IsF A a G) (hP : PC P (andF F G)) :
    Calls Try.prog 66 #[.pointer (some ⟨mk, 0, none⟩), .int .i64 (f : Int), .int .i64 (a : Int)] w (MR w B g A bl mk e P (andF F G)) := by
  have c0 : w.cell? ⟨mk, 0, none⟩ = some (.pointer (some ⟨g, 0, none⟩)) := h.bx.get 0 _ rfl
  have c1 : w.cell? ⟨mk, 1, none⟩ = some (.int .i64 (e : Int)) := h.bx.get 1 _ rfl
  have H := hide h
  have HP := hide hP
  have her := h.er
  by_cases he : e = 0
  · subst he
    have HF := hide (hf rfl)
    have HG := hide (ha rfl)
    clear h hP hf ha her
    go_enter Try.func66, Try.ntmps66
    go_wp2_with fail
    refine (aq_and H.out.sa HF.out HG.out HP.out).mono ?_
    clear c0 c1
    rintro en w1 ⟨A1, hsa, hext, hnw, hk, hres⟩
    have HE := hide hext
    have HN := hide hnw
    have HK := hide hk
    have hbx : Bx w1 mk #[.pointer (some ⟨g, 0, none⟩), .int .i64 0] 70 := H.out.bx.same (hk.same mk (by simp))
    have HM := hide (show MK w1 B g A1 bl mk 0 from ⟨hsa, hbx, .inl rfl, H.out.ap⟩)
    clear hsa hext hnw hk hbx
    rcases hres with ⟨r, rfl, hisf⟩ | ⟨rfl, hfull⟩
    · have HR := hide hisf
      clear hisf
      go_wp2_with fail
      refine (got_walk w1 B g A1 bl mk HM.out r 0 (.inl rfl)).mono ?_
      rintro en w2 hg
      have HF := hide (MR.of_got HE.out HN.out (HK.out.mono (fun j hj => List.mem_cons_of_mem _ hj)) (fun _ => HR.out) hg)
      obtain ⟨rfl, _⟩ := hg
      go_wp2
      go_ret
      exact HF.out
    · have HFU := hide hfull
      clear hfull
      go_wp2_with fail
      refine (got_walk w1 B g A1 bl mk HM.out 0 6 (.inr ⟨rfl, HFU.out⟩)).mono ?_
      rintro en w2 hg
      have HF := hide (MR.of_got (F := andF F G) HE.out HN.out (HK.out.mono (fun j hj => List.mem_cons_of_mem _ hj)) (fun h => by cases h) hg)
      obtain ⟨rfl, _⟩ := hg
      go_wp2
      go_ret
      exact HF.out
  · have HF := hide (MR.none P (andF F G) H.out he)
    have hne : ((e : Int) != 0) = true := by simp; omega
    clear h hP hf ha her he
    go_enter Try.func66, Try.ntmps66
    go_wp2
    go_ret
    exact HF.out
set_option maxRecDepth 100000 in
set_option maxHeartbeats 4000000 in
theorem mk_or (w : World) (B g : Nat) (A : St) (bl : List Nat) (mk e : Nat) (h : MK w B g A bl mk e) (f a : Nat) (F G : Bdd.Fn) (P : Bdd.Fn → Prop) (hf : e = 0 → IsF A f F) (ha : e = 0 → IsF A a G) (hP : PC P (orF F G)) :
    Calls Try.prog 64 #[.pointer (some ⟨mk, 0, none⟩), .int .i64 (f : Int), .int .i64 (a : Int)] w (MR w B g A bl mk e P (orF F G)) := by
  have c0 : w.cell? ⟨mk, 0, none⟩ = some (.pointer (some ⟨g, 0, none⟩)) := h.bx.get 0 _ rfl
  have c1 : w.cell? ⟨mk, 1, none⟩ = some (.int .i64 (e : Int)) := h.bx.get 1 _ rfl
  have H := hide h
  have HP := hide hP
  have her := h.er
  by_cases he : e = 0
  · subst he
    have HF := hide (hf rfl)
    have HG := hide (ha rfl)
    clear h hP hf ha her
    go_enter Try.func64, Try.ntmps64
    go_wp2_with fail
    refine (aq_or H.out.sa HF.out HG.out HP.out).mono ?_
    clear c0 c1
    rintro en w1 ⟨A1, hsa, hext, hnw, hk, hres⟩
    have HE := hide hext
    have HN := hide hnw
    have HK := hide hk
    have hbx : Bx w1 mk #[.pointer (some ⟨g, 0, none⟩), .int .i64 0] 70 := H.out.bx.same (hk.same mk (by simp))
    have HM := hide (show MK w1 B g A1 bl mk 0 from ⟨hsa, hbx, .inl rfl, H.out.ap⟩)
    clear hsa hext hnw hk hbx
    rcases hres with ⟨r, rfl, hisf⟩ | ⟨rfl, hfull⟩
    · have HR := hide hisf
      clear hisf
      go_wp2_with fail
      refine (got_walk w1 B g A1 bl mk HM.out r 0 (.inl rfl)).mono ?_
      rintro en w2 hg
      have HF := hide (MR.of_got HE.out HN.out (HK.out.mono (fun j hj => List.mem_cons_of_mem _ hj)) (fun _ => HR.out) hg)
      obtain ⟨rfl, _⟩ := hg
      go_wp2
      go_ret
      exact HF.out
    · have HFU := hide hfull
      clear hfull
      go_wp2_with fail
      refine (got_walk w1 B g A1 bl mk HM.out 0 6 (.inr ⟨rfl, HFU.out⟩)).mono ?_
      rintro en w2 hg
      have HF := hide (MR.of_got (F := orF F G) HE.out HN.out (HK.out.mono (fun j hj => List.mem_cons_of_mem _ hj)) (fun h => by cases h) hg)
      obtain ⟨rfl, _⟩ := hg
      go_wp2
      go_ret
      exact HF.out
  · have HF := hide (MR.none P (orF F G) H.out he)
    have hne : ((e : Int) != 0) = true := by simp; omega
    clear h hP hf ha her he
    go_enter Try.func64, Try.ntmps64
    go_wp2
    go_ret
    exact HF.out
end Go.Proofs.Ytklbdfgblebniaa
