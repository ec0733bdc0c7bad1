/- A part of the proof: RegE, Bp3. -/
import Derived.Test.YthaiffjalgionaaBd4
import Derived.StillTailTactics
import Derived.Deep.RegionHeld3

set_option linter.unusedVariables false
set_option linter.unusedSimpArgs false
namespace Go.Proofs.Ythaiffjalgionaa

structure ClosedL (md : Region.Mode) (ops : Array Oper) (listed : Array Bool) : Prop where
  size : listed.size = ops.size
  closed : ∀ j oj, ops[j]? = some oj → listed.getD j false = true → ∀ e ∈ oj.after, Region.binds md e = true → listed.getD e.on false = true

def chainOk (md : Region.Mode) (ops : Array Oper) : List Nat → Bool
  | i :: j :: r => Region.waitsFor md ops j i && chainOk md ops (j :: r)
  | _ => true

section
variable {P : Program} {ops : Array Oper} {Q : Exit → Act → World → Prop} {md : Region.Mode} {S : World → Prop} {s : Nat}

theorem ClosedL.set {i : Nat} {listed : Array Bool} (inv : ClosedL md ops listed) (hi : i ∈ Region.ready md ops listed) : ClosedL md ops (listed.setIfInBounds i true) := by
  obtain ⟨_, oi, hoi, hall⟩ := mem_ready.1 hi
  refine ⟨by simp [inv.size], fun j oj hj hl e he hb => ?_⟩
  by_cases hij : i = j
  · subst hij
    have : oj = oi := Option.some.inj (hj.symm.trans hoi)
    subst this
    exact getD_set_true (hall e he hb)
  · rw [getD_set_ne false hij] at hl
    exact getD_set_true (inv.closed j oj hj hl e he hb)

theorem chain_back {listed : Array Bool} (inv : ClosedL md ops listed) : ∀ (c : List Nat) (i s : Nat), chainOk md ops (i :: c) = true → (i :: c).getLast? = some s → listed.getD s false = true → listed.getD i false = true
  | [], i, s, _, hl, h => by simp at hl; rw [hl]; exact h
  | j :: r, i, s, hc, hl, h => by
    simp only [chainOk, Bool.and_eq_true] at hc
    have h1 := chain_back inv r j s hc.2 (by simpa using hl) h
    obtain ⟨oj, hoj, e, he, hb, hon⟩ := Region.waitsFor_spec hc.1
    have := inv.closed j oj hoj h1 e he hb
    rwa [hon] at this

theorem chain_unlisted {listed : Array Bool} (inv : ClosedL md ops listed) {c : List Nat} {i : Nat} (hc : chainOk md ops (i :: c) = true) (hl : (i :: c).getLast? = some s) (hs : s < ops.size) (hi : listed.getD i true = false) : listed.getD s true = false := by
  cases h : listed.getD s false with
  | true => have := chain_back inv c i s hc hl h; rw [getD_both hi] at this; cases this
  | false => exact getD_in (by rw [inv.size]; exact hs) h

def wpAnyE (P : Program) (md : Region.Mode) (ops : Array Oper) (Q : Exit → Act → World → Prop) (S : World → Prop) (s : Nat) : Nat → Array Bool → Act → World → Prop
  | 0, listed, a, w => Region.ready md ops listed = [] ∧ Q .normal a w
  | fuel + 1, listed, a, w =>
    (Region.ready md ops listed = [] → Q .normal a w) ∧
    ∀ i ∈ Region.ready md ops listed, wpOp P ops Q i (fun a' w' => ((listed.setIfInBounds i true).getD s true = false → S w') ∧ wpAnyE P md ops Q S s fuel (listed.setIfInBounds i true) a' w') a w

theorem wpAny_of_E : ∀ (fuel : Nat) (listed : Array Bool) (a : Act) (w : World), wpAnyE P md ops Q S s fuel listed a w → wpAny P md ops Q fuel listed a w
  | 0, _, _, _, h => h
  | fuel + 1, _, _, _, h => ⟨h.1, fun i hi => wpOp_mono (fun a' w' h' => wpAny_of_E fuel _ a' w' h'.2) (h.2 i hi)⟩

theorem wpAnyE_first {i : Nat} {oi : Oper} {v : Value} {S' : World → Prop} (hi : ops[i]? = some oi) (hsel : ∀ (j : Nat) (o : Oper) cs b, ops[j]? = some o → o.op ≠ .select cs b) (his : i ≠ s)
    (hS' : ∀ (listed : Array Bool) (w : World), ClosedL md ops listed → listed.getD i true = false → (listed.getD s true = false → S w) → S' w)
    (hQ : ∀ c a w, Q (.panic c) (a.put oi.dst v) w → Q (.panic c) a w) :
    ∀ (fuel : Nat) (listed : Array Bool) (a : Act) (w : World), ClosedL md ops listed →
      (∀ j oj, ops[j]? = some oj → j ≠ i → listed.getD j true = false → (∀ e ∈ oj.after, Region.binds md e = true → e.on ≠ i) → oi.apart ops oj = true) →
      i ∈ Region.ready md ops listed → YieldsIf P ops S' oi v a → (listed.getD s true = false → S w) →
      wpAnyE P md ops Q S s fuel (listed.setIfInBounds i true) (a.put oi.dst v) w → wpAnyE P md ops Q S s (fuel + 1) listed a w := by
  have same : ∀ (l : Array Bool), (l.setIfInBounds i true).getD s true = l.getD s true := fun l => getD_set_ne true his
  intro fuel
  induction fuel with
  | zero =>
    intro listed a w inv _ hr hy hS H
    have hun := (mem_ready.1 hr).1
    refine ⟨fun h => (by rw [h] at hr; cases hr), fun j hj => ?_⟩
    by_cases hji : j = i
    · subst hji; exact hy.wpOp hi (hS' listed w inv hun hS) ⟨fun h => hS (by rwa [same] at h), H⟩
    · have := ready_mono hj hji
      rw [H.1] at this
      cases this
  | succ fuel ih =>
    intro listed a w inv hfree hr hy hS H
    have hun := (mem_ready.1 hr).1
    refine ⟨fun h => (by rw [h] at hr; cases hr), fun j hj => ?_⟩
    by_cases hji : j = i
    · subst hji; exact hy.wpOp hi (hS' listed w inv hun hS) ⟨fun h => hS (by rwa [same] at h), H⟩
    · have h1 := H.2 j (ready_mono hj hji)
      obtain ⟨hjun, oj, hoj, hall⟩ := mem_ready.1 hj
      have hnot : ∀ e ∈ oj.after, Region.binds md e = true → e.on ≠ i := fun e he hb heq => by
        have h1 := hall e he hb
        rw [heq, getD_both hun] at h1
        cases h1
      have h2 := wpOp_putIf hoj (hfree j oj hoj hji hjun hnot) (fun cs b => hsel i oi cs b hi) (fun cs b => hsel j oj cs b hoj) hQ hy h1
      have hfree' : ∀ k ok, ops[k]? = some ok → k ≠ i → (listed.setIfInBounds j true).getD k true = false →
          (∀ e ∈ ok.after, Region.binds md e = true → e.on ≠ i) → oi.apart ops ok = true := fun k ok hk hki hun hno => by
        refine hfree k ok hk hki ?_ hno
        by_cases hjk : j = k
        · subst hjk; exact hjun
        · rw [getD_set_ne true hjk] at hun; exact hun
      refine wpOp_mono (fun a' w' h3 => ?_) h2
      have hS2 : (listed.setIfInBounds j true).getD s true = false → S w' := fun h => h3.2.1 (by rw [Array.setIfInBounds_comm _ _ (Ne.symm hji), same]; exact h)
      refine ⟨hS2, ih (listed.setIfInBounds j true) a' w' (inv.set hj) hfree' (ready_mono hr (Ne.symm hji)) h3.1 hS2 ?_⟩
      rw [Array.setIfInBounds_comm _ _ hji]
      exact h3.2.2

theorem wpAnyE_load {i : Nat} {oi : Oper} {v : Value} {fuel : Nat} {listed : Array Bool} {a : Act} {w : World} (c : List Nat) (hi0 : ops.toList[i]? = some oi) (hs : Region.noSelect ops = true) (hf : Region.free md ops listed i = true)
    (hr : (Region.ready md ops listed).contains i = true) (his : decide (i ≠ s) && decide (s < ops.size) && chainOk md ops (i :: c) && decide ((i :: c).getLast? = some s) = true) (hQ : ∀ c a w, Q (.panic c) (a.put oi.dst v) w → Q (.panic c) a w) (inv : Shut (ClosedL md ops listed)) (hy : YieldsIf P ops S oi v a) (hS : S w)
    (h : Shut (ClosedL md ops (listed.setIfInBounds i true)) → wpAnyE P md ops Q S s fuel (listed.setIfInBounds i true) (a.put oi.dst v) w) : wpAnyE P md ops Q S s (fuel + 1) listed a w := by
  have hi : ops[i]? = some oi := by simpa using hi0
  simp only [Bool.and_eq_true, decide_eq_true_eq] at his
  have hr' : i ∈ Region.ready md ops listed := by simpa using hr
  exact wpAnyE_first hi (Region.noSelect_spec hs) his.1.1.1 (fun l w inv hun hS => hS (chain_unlisted inv his.1.2 his.2 his.1.1.2 hun)) hQ fuel listed a w inv.out (Region.free_spec hi hf) hr' hy (fun _ => hS) (h (inv.out.set hr'))

theorem wpAnyE_pure {i : Nat} {oi : Oper} {v : Value} {fuel : Nat} {listed : Array Bool} {a : Act} {w : World} (hi0 : ops.toList[i]? = some oi) (hs : Region.noSelect ops = true) (hf : Region.free md ops listed i = true)
    (hr : (Region.ready md ops listed).contains i = true) (his : decide (i ≠ s) = true) (hQ : ∀ c a w, Q (.panic c) (a.put oi.dst v) w → Q (.panic c) a w) (inv : Shut (ClosedL md ops listed)) (hy : YieldsIf P ops (fun _ => True) oi v a) (hS : listed.getD s true = false → S w)
    (h : Shut (ClosedL md ops (listed.setIfInBounds i true)) → wpAnyE P md ops Q S s fuel (listed.setIfInBounds i true) (a.put oi.dst v) w) : wpAnyE P md ops Q S s (fuel + 1) listed a w := by
  have hi : ops[i]? = some oi := by simpa using hi0
  have hr' : i ∈ Region.ready md ops listed := by simpa using hr
  exact wpAnyE_first hi (Region.noSelect_spec hs) (by simpa using his) (fun _ _ _ _ _ => trivial) hQ fuel listed a w inv.out (Region.free_spec hi hf) hr' hy hS (h (inv.out.set hr'))

theorem wpAnyE_one {i : Nat} {o : Oper} {fuel : Nat} {listed : Array Bool} {a : Act} {w : World} (ho0 : ops.toList[i]? = some o) (hr : Region.ready md ops listed = [i]) (inv : Shut (ClosedL md ops listed))
    (h : ∀ K' : Act → World → Prop, Shut (∀ a w, ((listed.setIfInBounds i true).getD s true = false → S w) → (Shut (ClosedL md ops (listed.setIfInBounds i true)) → wpAnyE P md ops Q S s fuel (listed.setIfInBounds i true) a w) → K' a w) → if Region.wanted o (yielded ops a.tmps) = true then Oper.wp P o a w K' Q else K' (a.put o.dst undef) w) :
    wpAnyE P md ops Q S s (fuel + 1) listed a w := by
  have ho : ops[i]? = some o := by simpa using ho0
  have hi : i ∈ Region.ready md ops listed := by rw [hr]; simp
  refine ⟨fun h0 => (by rw [h0] at hr; cases hr), fun j hj => ?_⟩
  rw [hr] at hj
  have : j = i := by simpa using hj
  subst this
  exact wpOp_step ho (fun K hK => h K (fun a w hS hW => hK a w ⟨hS, hW (inv.out.set hi)⟩))

theorem wpAnyE_late {i : Nat} {o : Oper} {fuel : Nat} {listed : Array Bool} {a : Act} {w : World} (ho0 : ops.toList[i]? = some o) (hr : Region.ready md ops listed = [i]) (inv : Shut (ClosedL md ops listed)) (hx : (listed.setIfInBounds i true).getD s true = true)
    (h : ∀ K' : Act → World → Prop, Shut (∀ a w, (Shut (ClosedL md ops (listed.setIfInBounds i true)) → wpAnyE P md ops Q S s fuel (listed.setIfInBounds i true) a w) → K' a w) → if Region.wanted o (yielded ops a.tmps) = true then Oper.wp P o a w K' Q else K' (a.put o.dst undef) w) :
    wpAnyE P md ops Q S s (fuel + 1) listed a w := by
  have ho : ops[i]? = some o := by simpa using ho0
  have hi : i ∈ Region.ready md ops listed := by rw [hr]; simp
  refine ⟨fun h0 => (by rw [h0] at hr; cases hr), fun j hj => ?_⟩
  rw [hr] at hj
  have : j = i := by simpa using hj
  subst this
  exact wpOp_step ho (fun K hK => h K (fun a w hW => hK a w ⟨fun h => (by rw [hx] at h; cases h), hW (inv.out.set hi)⟩))

theorem wpAnyE_done {listed : Array Bool} {a : Act} {w : World} (hr : Region.ready md ops listed = []) (h : Q .normal a w) : ∀ fuel, wpAnyE P md ops Q S s fuel listed a w
  | 0 => ⟨hr, h⟩
  | _ + 1 => ⟨fun _ => h, by rw [hr]; simp⟩

theorem wp_region_E {id : Nat} {a : Act} {w : World} (S : World → Prop) (s : Nat) (hm : P.follows .mixedOrders = true) (hS : S w.drew)
    (h : S w.drew → Shut (ClosedL .any ops (Array.replicate ops.size false)) → wpAnyE P .any ops Q S s ops.size (Array.replicate ops.size false) a w.drew) : (Code.region id ops true).wp P Q a w :=
  wp_region_any hm (wpAny_of_E _ _ _ _ (h hS (show ClosedL .any ops (Array.replicate ops.size false) from ⟨by simp, fun j oj _ hl => (by rw [getD_replicate_false] at hl; cases hl)⟩)))
end
end Go.Proofs.Ythaiffjalgionaa

set_option linter.unusedVariables false
set_option linter.unusedSimpArgs false
namespace Go.Proofs.Ythaiffjalgionaa
open Go.RowKit Go.Maps Bdd Bq

theorem told1_enters : ∀ (args : Array Value) (w' : World), (callFunc 85 args).run Try.prog w' = .ok (.enter 85 args) w' := enters_of Try.func85 (by kernel_rfl) rfl
set_option maxRecDepth 100000 in
set_option maxHeartbeats 4000000 in
theorem told1_walk (i : Int) (hi : i64ok i) (n N4 len cap : Nat) (A : Option Addr) (l : List SeenV) (s : SeenV) (w : World) (h4 : w.cell? ⟨N4, 0, none⟩ = some (.slice A len cap)) (hl : SlAt (SeenV.cells n) 2 w w.heap.size A len l) (h0 : 0 < len) (hle : len ≤ 1000) (hs : l[(i % (len : Int)).toNat]? = some s) :
    Calls Try.prog 85 #[.int .i64 i, .pointer (some ⟨N4, 0, none⟩)] w fun e w' => e = .returned (.agg #[.int .i64 (s.id : Int), .slice (some ⟨s.N, 0, none⟩) n n]) ∧ Below w.heap.size w w' := by
  obtain ⟨b, o, rfl, hb, _⟩ := hl.2 h0
  have hm1 : 0 ≤ i % (len : Int) := Int.emod_nonneg _ (by omega)
  have hm2 : i % (len : Int) < (len : Int) := Int.emod_lt_of_pos _ (by omega)
  have HR := hide (fun (w' : World) => rest_walk i (len : Int) w' hi (by omega) (by omega))
  obtain ⟨j, hj⟩ : ∃ j : Nat, i % (len : Int) = (j : Int) := ⟨(i % (len : Int)).toNat, by omega⟩
  rw [hj] at HR hs hm1 hm2
  rw [Int.toNat_natCast] at hs
  clear hj
  obtain ⟨_, hg⟩ := hl.get hs
  have q0 := hg 0 _ rfl
  have q1 := hg 1 _ rfl
  rw [Nat.add_zero] at q0
  have hn4 := cell_in h4
  simp only at hn4
  have HB0 := hide (below_alloc w (.cells #[.int .i64 0, .slice none 0 0] 59))
  have hx := BoxV.new w #[.int .i64 0, .slice none 0 0] 59
  have hs0 : (w.alloc (.cells #[.int .i64 0, .slice none 0 0] 59)).heap.size = w.heap.size + 1 := by simp
  have k4 := (HB0.out.cell (p := ⟨N4, 0, none⟩) hn4).trans h4
  have k0 := (HB0.out.cell (p := ⟨b, o + j * 2, none⟩) hb).trans q0
  have k1 := (HB0.out.cell (p := ⟨b, o + j * 2 + 1, none⟩) hb).trans q1
  clear h4 hl hs hg q0 q1
  go_enter Try.func85, Try.ntmps85
  go_wp2_with fail
  generalize World.alloc w _ = w1 at *
  have z0 := hx.1 0 _ rfl
  have z1 := hx.1 1 _ rfl
  have f0 := hx.2 0
  have f1 := hx.2 1
  have HX := hide hx
  clear hx
  have i1 : (0 : Int) ≤ (j : Int) := by omega
  have m1 : N4 ≠ w.heap.size := by omega
  have m2 : b ≠ w.heap.size := by omega
  have m3 := Ne.symm m1
  have m4 := Ne.symm m2
  go_region_held3 (fun w' => w'.cell? ⟨N4, 0, none⟩ = some (.slice (some ⟨b, o, none⟩) len cap) ∧ w'.cell? ⟨b, o + j * 2, none⟩ = some (.int .i64 (s.id : Int)) ∧ w'.cell? ⟨b, o + j * 2 + 1, none⟩ = some (.slice (some ⟨s.N, 0, none⟩) n n)) (go_keep) ((go_at_call 86; refine (HR.out _).mono ?_; rintro e wp ⟨rfl, rfl⟩))
  clear z0 z1 f0 f1 k4 k0 k1 hm1 hm2 i1
  have hx2 := (HX.out.set 0 (.int .i64 (s.id : Int))).set 1 (.slice (some ⟨s.N, 0, none⟩) n n)
  have hb2 := (HB0.out.setCell (p := ⟨w.heap.size, 0, none⟩) (Nat.le_refl _) (.int .i64 (s.id : Int))).setCell (p := ⟨w.heap.size, 1, none⟩) (Nat.le_refl _) (.slice (some ⟨s.N, 0, none⟩) n n)
  -- T1
  generalize World.setCell (World.setCell w1 _ _) _ _ = w2 at *
  have y0 : w2.cell? ⟨w.heap.size, 0, none⟩ = some (.int .i64 (s.id : Int)) := hx2.1 0 _ rfl
  have y1 : w2.cell? ⟨w.heap.size, 1, none⟩ = some (.slice (some ⟨s.N, 0, none⟩) n n) := hx2.1 1 _ rfl
  clear hx2
  go_wp2
  refine bodyPost_ret (v := .agg #[.int .i64 (s.id : Int), .slice (some ⟨s.N, 0, none⟩) n n]) (by simp [results, Try.results85, go_sem, y0, y1]) rfl ?_
  exact ⟨rfl, hb2.drew⟩

theorem wpAnyE_split {P : Program} {ops : Array Oper} {Q : Exit → Act → World → Prop} {md : Region.Mode} {S : World → Prop} {s fuel : Nat} {listed : Array Bool} {a : Act} {w : World} (rs : List Nat) (hr : Region.ready md ops listed = rs) (hne : rs ≠ [])
    (h : ∀ i ∈ rs, wpOp P ops Q i (fun a' w' => ((listed.setIfInBounds i true).getD s true = false → S w') ∧ wpAnyE P md ops Q S s fuel (listed.setIfInBounds i true) a' w') a w) : wpAnyE P md ops Q S s (fuel + 1) listed a w :=
  ⟨fun h0 => absurd (hr.symm.trans h0) hne, fun i hi => h i (by rw [← hr]; exact hi)⟩
theorem cutE4 {P : Program} {ops : Array Oper} {Q : Exit → Act → World → Prop} {md : Region.Mode} {S : World → Prop} {s fuel : Nat} {listed : Array Bool} {a : Act} {w : World} (A : Nat → Nat → Nat → Act) (C : Nat → Nat → Nat → World → Prop) (h1 : ∀ (Q' : Exit → Act → World → Prop) (ops' : Array Oper), ops' = ops → Shut (∀ N1 N2 N3 w', C N1 N2 N3 w' → Q' .normal (A N1 N2 N3) w') → wpAnyE P md ops' Q' S s fuel listed a w) (h2 : ∀ N1 N2 N3 w', C N1 N2 N3 w' → Q .normal (A N1 N2 N3) w') : wpAnyE P md ops Q S s fuel listed a w := h1 Q ops rfl h2
def ZB (Wb w : World) (N : Nat) : Prop := BoxV w N #[.int .i64 0, .slice none 0 0] ∧ Wb.heap.size ≤ N ∧ N < w.heap.size
structure RI (Wb : World) (p1 p2 p3 : Option Nat) (w : World) : Prop where
  b : Below Wb.heap.size Wb w
  z1 : ∀ N, p1 = some N → ZB Wb w N
  z2 : ∀ N, p2 = some N → ZB Wb w N
  z3 : ∀ N, p3 = some N → ZB Wb w N
  d12 : ∀ N M, p1 = some N → p2 = some M → N ≠ M
  d13 : ∀ N M, p1 = some N → p3 = some M → N ≠ M
  d23 : ∀ N M, p2 = some N → p3 = some M → N ≠ M
theorem ZB.below {Wb w w' : World} {N : Nat} (h : ZB Wb w N) (hb : Below w.heap.size w w') : ZB Wb w' N := ⟨h.1.below hb h.2.2, h.2.1, Nat.lt_of_lt_of_le h.2.2 hb.size⟩
theorem RI.below {Wb w w' : World} {p1 p2 p3 : Option Nat} (h : RI Wb p1 p2 p3 w) (hb : Below w.heap.size w w') : RI Wb p1 p2 p3 w' :=
  ⟨h.b.trans (hb.mono h.b.size), fun N e => (h.z1 N e).below hb, fun N e => (h.z2 N e).below hb, fun N e => (h.z3 N e).below hb, h.d12, h.d13, h.d23⟩
theorem ZB.new {Wb w : World} (h : Wb.heap.size ≤ w.heap.size) (t : TypeId) : ZB Wb (w.alloc (.cells #[.int .i64 0, .slice none 0 0] t)) w.heap.size := ⟨BoxV.new _ _ _, h, by simp⟩
theorem RI.al1 {Wb w : World} {p2 p3 : Option Nat} (h : RI Wb none p2 p3 w) (t : TypeId) : RI Wb (some w.heap.size) p2 p3 (w.alloc (.cells #[.int .i64 0, .slice none 0 0] t)) := by
  have q := h.below (below_alloc w (.cells #[.int .i64 0, .slice none 0 0] t))
  refine ⟨q.b, fun N e => ?_, q.z2, q.z3, fun N M e e2 => ?_, fun N M e e2 => ?_, q.d23⟩
  · cases e; exact ZB.new h.b.size t
  · cases e; have := (h.z2 M e2).2.2; omega
  · cases e; have := (h.z3 M e2).2.2; omega
theorem RI.al2 {Wb w : World} {p1 p3 : Option Nat} (h : RI Wb p1 none p3 w) (t : TypeId) : RI Wb p1 (some w.heap.size) p3 (w.alloc (.cells #[.int .i64 0, .slice none 0 0] t)) := by
  have q := h.below (below_alloc w (.cells #[.int .i64 0, .slice none 0 0] t))
  refine ⟨q.b, q.z1, fun N e => ?_, q.z3, fun N M e e2 => ?_, q.d13, fun N M e e2 => ?_⟩
  · cases e; exact ZB.new h.b.size t
  · cases e2; have := (h.z1 N e).2.2; omega
  · cases e; have := (h.z3 M e2).2.2; omega
theorem RI.al3 {Wb w : World} {p1 p2 : Option Nat} (h : RI Wb p1 p2 none w) (t : TypeId) : RI Wb p1 p2 (some w.heap.size) (w.alloc (.cells #[.int .i64 0, .slice none 0 0] t)) := by
  have q := h.below (below_alloc w (.cells #[.int .i64 0, .slice none 0 0] t))
  refine ⟨q.b, q.z1, q.z2, fun N e => ?_, q.d12, fun N M e e2 => ?_, fun N M e e2 => ?_⟩
  · cases e; exact ZB.new h.b.size t
  · cases e2; have := (h.z1 N e).2.2; omega
  · cases e2; have := (h.z2 N e).2.2; omega
theorem RI.fill {Wb w : World} {N1 N2 N3 : Nat} (h : RI Wb (some N1) (some N2) (some N3) w) (a b c a' b' c' : Value) : BX Wb [(N1, #[a, a']), (N2, #[b, b']), (N3, #[c, c'])] ((((((w.setCell ⟨N1, 0, none⟩ a).setCell ⟨N1, 1, none⟩ a').setCell ⟨N2, 0, none⟩ b).setCell ⟨N2, 1, none⟩ b').setCell ⟨N3, 0, none⟩ c).setCell ⟨N3, 1, none⟩ c') := by
  obtain ⟨x1, y1, z1⟩ := h.z1 N1 rfl
  obtain ⟨x2, y2, z2⟩ := h.z2 N2 rfl
  obtain ⟨x3, y3, z3⟩ := h.z3 N3 rfl
  have d12 := h.d12 N1 N2 rfl rfl
  have d13 := h.d13 N1 N3 rfl rfl
  have d23 := h.d23 N2 N3 rfl rfl
  have hs : ∀ (w' : World) (p : Addr) (v : Value), (w'.setCell p v).heap.size = w'.heap.size := fun w' p v => by simp [World.setCell]
  refine ⟨(((((h.b.setCell (p := ⟨N1, 0, none⟩) y1 a).setCell (p := ⟨N1, 1, none⟩) y1 a').setCell (p := ⟨N2, 0, none⟩) y2 b).setCell (p := ⟨N2, 1, none⟩) y2 b').setCell (p := ⟨N3, 0, none⟩) y3 c).setCell (p := ⟨N3, 1, none⟩) y3 c', fun x hx => ?_⟩
  simp only [hs]
  simp only [List.mem_cons, List.not_mem_nil, or_false] at hx
  rcases hx with rfl | rfl | rfl
  · exact ⟨(((((x1.set 0 a).set 1 a').far ⟨N2, 0, none⟩ b (Ne.symm d12)).far ⟨N2, 1, none⟩ b' (Ne.symm d12)).far ⟨N3, 0, none⟩ c (Ne.symm d13)).far ⟨N3, 1, none⟩ c' (Ne.symm d13), z1⟩
  · exact ⟨((((((x2.far ⟨N1, 0, none⟩ a d12).far ⟨N1, 1, none⟩ a' d12).set 0 b).set 1 b').far ⟨N3, 0, none⟩ c (Ne.symm d23)).far ⟨N3, 1, none⟩ c' (Ne.symm d23)), z2⟩
  · exact ⟨((((((x3.far ⟨N1, 0, none⟩ a d13).far ⟨N1, 1, none⟩ a' d13).far ⟨N2, 0, none⟩ b d23).far ⟨N2, 1, none⟩ b' d23).set 0 c).set 1 c'), z3⟩
end Go.Proofs.Ythaiffjalgionaa
