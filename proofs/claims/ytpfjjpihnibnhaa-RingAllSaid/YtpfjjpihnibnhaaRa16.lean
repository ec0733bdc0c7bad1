/- A part of the proof: RegE, RgSets. -/
import Derived.Test.YtpfjjpihnibnhaaRa15
import Derived.StillTailTactics
import Derived.Deep.RegionHeld3

set_option linter.unusedVariables false
set_option linter.unusedSimpArgs false
namespace Go.Proofs.Ytpfjjpihnibnhaa

structure ClosedL (md : Region.Mode) (ops : Array Oper) (listed : Array Bool) : Prop where
  size : listed.size = ops.size
  closed : ∀ j oj, ops[j]? = some oj → listed.getD j false = true → ∀ e ∈ oj.after, Region.binds md e = true → listed.getD e.on false = true

def chainOk (md : Region.Mode) (ops : Array Oper) : List Nat → Bool
  | i :: j :: r => Region.waitsFor md ops j i && chainOk md ops (j :: r)
  | _ => true

section
variable {P : Program} {ops : Array Oper} {Q : Exit → Act → World → Prop} {md : Region.Mode} {S : World → Prop} {s : Nat}

theorem ClosedL.set {i : Nat} {listed : Array Bool} (inv : ClosedL md ops listed) (hi : i ∈ Region.ready md ops listed) : ClosedL md ops (listed.setIfInBounds i true) := by
  obtain ⟨_, oi, hoi, hall⟩ := mem_ready.1 hi
  refine ⟨by simp [inv.size], fun j oj hj hl e he hb => ?_⟩
  by_cases hij : i = j
  · subst hij
    have : oj = oi := Option.some.inj (hj.symm.trans hoi)
    subst this
    exact getD_set_true (hall e he hb)
  · rw [getD_set_ne false hij] at hl
    exact getD_set_true (inv.closed j oj hj hl e he hb)

theorem chain_back {listed : Array Bool} (inv : ClosedL md ops listed) : ∀ (c : List Nat) (i s : Nat), chainOk md ops (i :: c) = true → (i :: c).getLast? = some s → listed.getD s false = true → listed.getD i false = true
  | [], i, s, _, hl, h => by simp at hl; rw [hl]; exact h
  | j :: r, i, s, hc, hl, h => by
    simp only [chainOk, Bool.and_eq_true] at hc
    have h1 := chain_back inv r j s hc.2 (by simpa using hl) h
    obtain ⟨oj, hoj, e, he, hb, hon⟩ := Region.waitsFor_spec hc.1
    have := inv.closed j oj hoj h1 e he hb
    rwa [hon] at this

theorem chain_unlisted {listed : Array Bool} (inv : ClosedL md ops listed) {c : List Nat} {i : Nat} (hc : chainOk md ops (i :: c) = true) (hl : (i :: c).getLast? = some s) (hs : s < ops.size) (hi : listed.getD i true = false) : listed.getD s true = false := by
  cases h : listed.getD s false with
  | true => have := chain_back inv c i s hc hl h; rw [getD_both hi] at this; cases this
  | false => exact getD_in (by rw [inv.size]; exact hs) h

def wpAnyE (P : Program) (md : Region.Mode) (ops : Array Oper) (Q : Exit → Act → World → Prop) (S : World → Prop) (s : Nat) : Nat → Array Bool → Act → World → Prop
  | 0, listed, a, w => Region.ready md ops listed = [] ∧ Q .normal a w
  | fuel + 1, listed, a, w =>
    (Region.ready md ops listed = [] → Q .normal a w) ∧
    ∀ i ∈ Region.ready md ops listed, wpOp P ops Q i (fun a' w' => ((listed.setIfInBounds i true).getD s true = false → S w') ∧ wpAnyE P md ops Q S s fuel (listed.setIfInBounds i true) a' w') a w

theorem wpAny_of_E : ∀ (fuel : Nat) (listed : Array Bool) (a : Act) (w : World), wpAnyE P md ops Q S s fuel listed a w → wpAny P md ops Q fuel listed a w
  | 0, _, _, _, h => h
  | fuel + 1, _, _, _, h => ⟨h.1, fun i hi => wpOp_mono (fun a' w' h' => wpAny_of_E fuel _ a' w' h'.2) (h.2 i hi)⟩

theorem wpAnyE_first {i : Nat} {oi : Oper} {v : Value} {S' : World → Prop} (hi : ops[i]? = some oi) (hsel : ∀ (j : Nat) (o : Oper) cs b, ops[j]? = some o → o.op ≠ .select cs b) (his : i ≠ s)
    (hS' : ∀ (listed : Array Bool) (w : World), ClosedL md ops listed → listed.getD i true = false → (listed.getD s true = false → S w) → S' w)
    (hQ : ∀ c a w, Q (.panic c) (a.put oi.dst v) w → Q (.panic c) a w) :
    ∀ (fuel : Nat) (listed : Array Bool) (a : Act) (w : World), ClosedL md ops listed →
      (∀ j oj, ops[j]? = some oj → j ≠ i → listed.getD j true = false → (∀ e ∈ oj.after, Region.binds md e = true → e.on ≠ i) → oi.apart ops oj = true) →
      i ∈ Region.ready md ops listed → YieldsIf P ops S' oi v a → (listed.getD s true = false → S w) →
      wpAnyE P md ops Q S s fuel (listed.setIfInBounds i true) (a.put oi.dst v) w → wpAnyE P md ops Q S s (fuel + 1) listed a w := by
  have same : ∀ (l : Array Bool), (l.setIfInBounds i true).getD s true = l.getD s true := fun l => getD_set_ne true his
  intro fuel
  induction fuel with
  | zero =>
    intro listed a w inv _ hr hy hS H
    have hun := (mem_ready.1 hr).1
    refine ⟨fun h => (by rw [h] at hr; cases hr), fun j hj => ?_⟩
    by_cases hji : j = i
    · subst hji; exact hy.wpOp hi (hS' listed w inv hun hS) ⟨fun h => hS (by rwa [same] at h), H⟩
    · have := ready_mono hj hji
      rw [H.1] at this
      cases this
  | succ fuel ih =>
    intro listed a w inv hfree hr hy hS H
    have hun := (mem_ready.1 hr).1
    refine ⟨fun h => (by rw [h] at hr; cases hr), fun j hj => ?_⟩
    by_cases hji : j = i
    · subst hji; exact hy.wpOp hi (hS' listed w inv hun hS) ⟨fun h => hS (by rwa [same] at h), H⟩
    · have h1 := H.2 j (ready_mono hj hji)
      obtain ⟨hjun, oj, hoj, hall⟩ := mem_ready.1 hj
      have hnot : ∀ e ∈ oj.after, Region.binds md e = true → e.on ≠ i := fun e he hb heq => by
        have h1 := hall e he hb
        rw [heq, getD_both hun] at h1
        cases h1
      have h2 := wpOp_putIf hoj (hfree j oj hoj hji hjun hnot) (fun cs b => hsel i oi cs b hi) (fun cs b => hsel j oj cs b hoj) hQ hy h1
      have hfree' : ∀ k ok, ops[k]? = some ok → k ≠ i → (listed.setIfInBounds j true).getD k true = false →
          (∀ e ∈ ok.after, Region.binds md e = true → e.on ≠ i) → oi.apart ops ok = true := fun k ok hk hki hun hno => by
        refine hfree k ok hk hki ?_ hno
        by_cases hjk : j = k
        · subst hjk; exact hjun
        · rw [getD_set_ne true hjk] at hun; exact hun
      refine wpOp_mono (fun a' w' h3 => ?_) h2
      have hS2 : (listed.setIfInBounds j true).getD s true = false → S w' := fun h => h3.2.1 (by rw [Array.setIfInBounds_comm _ _ (Ne.symm hji), same]; exact h)
      refine ⟨hS2, ih (listed.setIfInBounds j true) a' w' (inv.set hj) hfree' (ready_mono hr (Ne.symm hji)) h3.1 hS2 ?_⟩
      rw [Array.setIfInBounds_comm _ _ hji]
      exact h3.2.2

theorem wpAnyE_load {i : Nat} {oi : Oper} {v : Value} {fuel : Nat} {listed : Array Bool} {a : Act} {w : World} (c : List Nat) (hi0 : ops.toList[i]? = some oi) (hs : Region.noSelect ops = true) (hf : Region.free md ops listed i = true)
    (hr : (Region.ready md ops listed).contains i = true) (his : decide (i ≠ s) && decide (s < ops.size) && chainOk md ops (i :: c) && decide ((i :: c).getLast? = some s) = true) (hQ : ∀ c a w, Q (.panic c) (a.put oi.dst v) w → Q (.panic c) a w) (inv : Shut (ClosedL md ops listed)) (hy : YieldsIf P ops S oi v a) (hS : S w)
    (h : Shut (ClosedL md ops (listed.setIfInBounds i true)) → wpAnyE P md ops Q S s fuel (listed.setIfInBounds i true) (a.put oi.dst v) w) : wpAnyE P md ops Q S s (fuel + 1) listed a w := by
  have hi : ops[i]? = some oi := by simpa using hi0
  simp only [Bool.and_eq_true, decide_eq_true_eq] at his
  have hr' : i ∈ Region.ready md ops listed := by simpa using hr
  exact wpAnyE_first hi (Region.noSelect_spec hs) his.1.1.1 (fun l w inv hun hS => hS (chain_unlisted inv his.1.2 his.2 his.1.1.2 hun)) hQ fuel listed a w inv.out (Region.free_spec hi hf) hr' hy (fun _ => hS) (h (inv.out.set hr'))

theorem wpAnyE_pure {i : Nat} {oi : Oper} {v : Value} {fuel : Nat} {listed : Array Bool} {a : Act} {w : World} (hi0 : ops.toList[i]? = some oi) (hs : Region.noSelect ops = true) (hf : Region.free md ops listed i = true)
    (hr : (Region.ready md ops listed).contains i = true) (his : decide (i ≠ s) = true) (hQ : ∀ c a w, Q (.panic c) (a.put oi.dst v) w → Q (.panic c) a w) (inv : Shut (ClosedL md ops listed)) (hy : YieldsIf P ops (fun _ => True) oi v a) (hS : listed.getD s true = false → S w)
    (h : Shut (ClosedL md ops (listed.setIfInBounds i true)) → wpAnyE P md ops Q S s fuel (listed.setIfInBounds i true) (a.put oi.dst v) w) : wpAnyE P md ops Q S s (fuel + 1) listed a w := by
  have hi : ops[i]? = some oi := by simpa using hi0
  have hr' : i ∈ Region.ready md ops listed := by simpa using hr
  exact wpAnyE_first hi (Region.noSelect_spec hs) (by simpa using his) (fun _ _ _ _ _ => trivial) hQ fuel listed a w inv.out (Region.free_spec hi hf) hr' hy hS (h (inv.out.set hr'))

theorem wpAnyE_one {i : Nat} {o : Oper} {fuel : Nat} {listed : Array Bool} {a : Act} {w : World} (ho0 : ops.toList[i]? = some o) (hr : Region.ready md ops listed = [i]) (inv : Shut (ClosedL md ops listed))
    (h : ∀ K' : Act → World → Prop, Shut (∀ a w, ((listed.setIfInBounds i true).getD s true = false → S w) → (Shut (ClosedL md ops (listed.setIfInBounds i true)) → wpAnyE P md ops Q S s fuel (listed.setIfInBounds i true) a w) → K' a w) → if Region.wanted o (yielded ops a.tmps) = true then Oper.wp P o a w K' Q else K' (a.put o.dst undef) w) :
    wpAnyE P md ops Q S s (fuel + 1) listed a w := by
  have ho : ops[i]? = some o := by simpa using ho0
  have hi : i ∈ Region.ready md ops listed := by rw [hr]; simp
  refine ⟨fun h0 => (by rw [h0] at hr; cases hr), fun j hj => ?_⟩
  rw [hr] at hj
  have : j = i := by simpa using hj
  subst this
  exact wpOp_step ho (fun K hK => h K (fun a w hS hW => hK a w ⟨hS, hW (inv.out.set hi)⟩))

theorem wpAnyE_late {i : Nat} {o : Oper} {fuel : Nat} {listed : Array Bool} {a : Act} {w : World} (ho0 : ops.toList[i]? = some o) (hr : Region.ready md ops listed = [i]) (inv : Shut (ClosedL md ops listed)) (hx : (listed.setIfInBounds i true).getD s true = true)
    (h : ∀ K' : Act → World → Prop, Shut (∀ a w, (Shut (ClosedL md ops (listed.setIfInBounds i true)) → wpAnyE P md ops Q S s fuel (listed.setIfInBounds i true) a w) → K' a w) → if Region.wanted o (yielded ops a.tmps) = true then Oper.wp P o a w K' Q else K' (a.put o.dst undef) w) :
    wpAnyE P md ops Q S s (fuel + 1) listed a w := by
  have ho : ops[i]? = some o := by simpa using ho0
  have hi : i ∈ Region.ready md ops listed := by rw [hr]; simp
  refine ⟨fun h0 => (by rw [h0] at hr; cases hr), fun j hj => ?_⟩
  rw [hr] at hj
  have : j = i := by simpa using hj
  subst this
  exact wpOp_step ho (fun K hK => h K (fun a w hW => hK a w ⟨fun h => (by rw [hx] at h; cases h), hW (inv.out.set hi)⟩))

theorem wpAnyE_done {listed : Array Bool} {a : Act} {w : World} (hr : Region.ready md ops listed = []) (h : Q .normal a w) : ∀ fuel, wpAnyE P md ops Q S s fuel listed a w
  | 0 => ⟨hr, h⟩
  | _ + 1 => ⟨fun _ => h, by rw [hr]; simp⟩

theorem wp_region_E {id : Nat} {a : Act} {w : World} (S : World → Prop) (s : Nat) (hm : P.follows .mixedOrders = true) (hS : S w.drew)
    (h : S w.drew → Shut (ClosedL .any ops (Array.replicate ops.size false)) → wpAnyE P .any ops Q S s ops.size (Array.replicate ops.size false) a w.drew) : (Code.region id ops true).wp P Q a w :=
  wp_region_any hm (wpAny_of_E _ _ _ _ (h hS (show ClosedL .any ops (Array.replicate ops.size false) from ⟨by simp, fun j oj _ hl => (by rw [getD_replicate_false] at hl; cases hl)⟩)))
end
end Go.Proofs.Ytpfjjpihnibnhaa

set_option linter.unusedVariables false
set_option linter.unusedSimpArgs false
namespace Go.Proofs.Ytpfjjpihnibnhaa
open Go.RowKit Go.Maps Bdd

abbrev MapPl (w : World) (b : Nat) (M : PoK → Option Value) : Prop := MapIs Try.prog 41 poVal poDom w b M
structure SetsOk (A : St) (M : PoK → Option Value) (S : Pl → Bdd.Fn) (ks : List Pl) : Prop where
  ints : Ints M
  isF : ∀ x, IsF A (numAt M x) (S x)
  keys : ∀ x, (M x).isSome = true → x ∈ ks
theorem SetsOk.ext {A A' : St} {M : PoK → Option Value} {S : Pl → Bdd.Fn} {ks : List Pl} (h : SetsOk A M S ks) (i : Inv A) (he : Ext A A') : SetsOk A' M S ks := ⟨h.ints, fun x => (h.isF x).ext i he, h.keys⟩
theorem SetsOk.empty {A : St} (i : Inv A) (ks : List Pl) : SetsOk A (fun _ => none) (fun _ _ => false) ks :=
  ⟨fun a v h => (by cases h), fun x => (by rw [numAt_none rfl]; exact IsF.zero i), fun x h => (by cases h)⟩
theorem numAt_put {M : PoK → Option Value} {a : PoK} {n : Nat} (x : PoK) : numAt (putM M a (.int .i64 (n : Int))) x = if x = a then n else numAt M x := by
  by_cases e : x = a
  · rw [if_pos e, e, numAt_some (putM_same M a _)]
  · rw [if_neg e]
    unfold numAt
    rw [putM_other M _ e]
theorem SetsOk.put {A : St} {M : PoK → Option Value} {S : Pl → Bdd.Fn} {ks : List Pl} (h : SetsOk A M S ks) {a : Pl} {n : Nat} {F : Bdd.Fn} (ha : poDom a) (hk : a ∈ ks) (hF : IsF A n F) :
    SetsOk A (putM M a (.int .i64 (n : Int))) (fun x => if a = x then F else S x) ks := by
  refine ⟨fun x v hx => ?_, fun x => ?_, fun x hx => ?_⟩
  · by_cases e : x = a
    · subst e
      rw [putM_same] at hx
      cases hx
      exact ⟨ha, n, rfl⟩
    · rw [putM_other M _ e] at hx
      exact h.ints x v hx
  · rw [numAt_put]
    by_cases e : x = a
    · subst e; simpa using hF
    · rw [if_neg e, if_neg (fun e' => e e'.symm)]; exact h.isF x
  · by_cases e : x = a
    · subst e; exact hk
    · rw [putM_other M _ e] at hx
      exact h.keys x hx

def srcs (L : List StepT) : List Pl := L.map (·.src)
theorem srcs_len (L : List StepT) : (srcs L).length = L.length := by simp [srcs]

section
variable {wr w' : World} {A2 : St} {v : Value} {l : List StepV} {L : List StepT} {more : List Nat}

structure SH (w : World) (B g : Nat) (A : St) (bl : List Nat) (base : Nat) (v : Value) (l : List StepV) (L : List StepT) (wb nbk : Nat) (Mw : PoK → Option Value) (S : Pl → Bdd.Fn) (wr : World) (A2 : St) (M2 : PoK → Option Value) (S2 : Pl → Bdd.Fn) (more : List Nat) : Prop where
  row : RowS wr B g A2 base 76 5 v l.length (l.flatMap StepV.cells) (more ++ nbk :: wb :: bl)
  kp : KP B (v.ownBlock.toList ++ wb :: bl) w wr
  ok : StepsOk A2 l L
  ext : Ext A A2
  mw : MapPl wr wb Mw
  sw : SetsOk A2 Mw S (srcs L)
  mn : MapPl wr nbk M2
  sn : SetsOk A2 M2 S2 (srcs L)
  ne : nbk ∉ v.ownBlock.toList ++ wb :: bl
end

section
variable {w : World} {B g : Nat} {A : St} {bl : List Nat} {base : Nat} {v : Value} {l : List StepV} {L : List StepT} {wb nbk : Nat} {Mw : PoK → Option Value} {S : Pl → Bdd.Fn} {wr w' : World} {A2 : St} {M2 : PoK → Option Value} {S2 : Pl → Bdd.Fn} {more : List Nat}

theorem SH.inv (h : SH w B g A bl base v l L wb nbk Mw S wr A2 M2 S2 more) : Inv A2 := h.row.sa.inv
theorem SH.below (h : SH w B g A bl base v l L wb nbk Mw S wr A2 M2 S2 more) (hb : RowKit.Below wr.heap.size wr w') : SH w B g A bl base v l L wb nbk Mw S w' A2 M2 S2 more :=
  ⟨h.row.below hb, h.kp.trans (((h.row.sa).kp hb).mono (fun j hj => by
    simp only [List.mem_append, List.mem_cons] at hj ⊢
    rcases hj with a | a | a
    · exact .inl a
    · exact .inr (.inr (.inr (.inl a)))
    · exact .inr (.inr (.inr (.inr a))))), h.ok, h.ext, h.mw.same (hb.block wb h.mw.lt), h.sw, h.mn.same (hb.block nbk h.mn.lt), h.sn, h.ne⟩
theorem SH.alloc (h : SH w B g A bl base v l L wb nbk Mw S wr A2 M2 S2 more) (o : Obj) : SH w B g A bl base v l L wb nbk Mw S (wr.alloc o) A2 M2 S2 (wr.heap.size :: more) :=
  have hb := below_alloc2 wr o
  have q := h.below hb
  ⟨h.row.alloc o, q.kp, h.ok, h.ext, q.mw, h.sw, q.mn, h.sn, h.ne⟩
theorem SH.less {more' : List Nat} (h : SH w B g A bl base v l L wb nbk Mw S wr A2 M2 S2 more) (hs : ∀ j ∈ more', j ∈ more) : SH w B g A bl base v l L wb nbk Mw S wr A2 M2 S2 more' :=
  ⟨h.row.less (fun j hj => by
    rcases List.mem_append.1 hj with a | a
    · exact List.mem_append_left _ (hs j a)
    · exact List.mem_append_right _ a), h.kp, h.ok, h.ext, h.mw, h.sw, h.mn, h.sn, h.ne⟩
theorem SH.call (h : SH w B g A bl base v l L wb nbk Mw S wr A2 M2 S2 more) {F : Bdd.Fn} {en : Ending} (hq : AP wr B g A2 (v.ownBlock.toList ++ (more ++ nbk :: wb :: bl)) F en w') :
    ∃ A3, SH w B g A bl base v l L wb nbk Mw S w' A3 M2 S2 more ∧ Ext A2 A3 ∧ BRes A3 F en ∧ (∀ j ∈ more, w'.heap[j]? = wr.heap[j]?) ∧ RowKit.Below B wr w' := by
  have hq2 := hq
  obtain ⟨A3', _, _, hk, _⟩ := hq2
  obtain ⟨A3, h1, h2, h3, h4⟩ := h.row.call hq
  refine ⟨A3, ⟨h1, h.kp.trans (hk.mono (fun j hj => ?_)), h.ok.ext h.inv h2, h.ext.trans h2, h.mw.same (h3.same wb (by simp)), h.sw.ext h.inv h2, h.mn.same (h3.same nbk (by simp)), h.sn.ext h.inv h2, h.ne⟩, h2, h4, fun j hj => h3.same j (by simp [hj]), h3.low⟩
  simp only [List.mem_append, List.mem_cons] at hj ⊢
  rcases hj with a | a | a
  · exact .inl a
  · exact .inr (.inr (.inr (.inl a)))
  · exact .inr (.inr (.inr (.inr a)))
theorem SH.store (h : SH w B g A bl base v l L wb nbk Mw S wr A2 M2 S2 more) {a : Pl} {n : Nat} {F : Bdd.Fn} (ha : poDom a) (hk : a ∈ srcs L) (hF : IsF A2 n F) (hL : L.length ≤ 1000) (hmore : nbk ∉ more) :
    ∃ w', (Instr.mapUpdate 74 (.map (some nbk)) (poVal a) (.int .i64 (n : Int))).run Try.prog wr = .ok () w' ∧ SH w B g A bl base v l L wb nbk Mw S w' A2 (putM M2 a (.int .i64 (n : Int))) (fun x => if a = x then F else S2 x) more ∧ (∀ j ∈ more, w'.heap[j]? = wr.heap[j]?) ∧ wr.heap.size ≤ w'.heap.size ∧ RowKit.Below B wr w' := by
  obtain ⟨w', hrun, r1, r2⟩ := h.mn.storeA placeKeys (srcs L) (by rw [srcs_len]; unfold maxLen; omega) (fun x _ hx => h.sn.keys x hx) Try.underlying74 ha (.int .i64 (n : Int))
  have hg := r2.grown
  have hB := h.row.sa.hB
  have hne := h.ne
  simp only [List.mem_append, List.mem_cons, not_or] at hne
  obtain ⟨n1, n2, n3⟩ := hne
  have hlts := h.row.sa.lt
  have hsa : AS w' B g A2 (v.ownBlock.toList ++ (more ++ nbk :: wb :: bl)) := h.row.sa.grown hg (fun j hj => by cases hj; simp)
  have hblk : ∀ j, j < wr.heap.size → j ≠ nbk → w'.heap[j]? = wr.heap[j]? := fun j hj hn => hg.block j hj (fun e => by cases e; exact hn rfl)
  have hlow : RowKit.Below B wr w' := ⟨hg.os, hg.tape, hg.output, hg.size, fun i hi => hblk i (by omega) (by have := (hlts nbk (by simp)).1; omega)⟩
  refine ⟨w', hrun, ⟨⟨hsa, own_same h.row.own (fun q hq => hblk q (h.row.own.lt q hq).2 (fun e => n1 (by simp [hq, e]))), h.row.ap⟩, h.kp.trans ⟨hlow, fun j hj => ?_⟩, h.ok, h.ext, h.mw.same (hblk wb h.mw.lt (Ne.symm n2)), h.sw, r1, h.sn.put ha hk hF, h.ne⟩, fun j hj => hblk j (hlts j (by simp [hj])).2 (fun e => hmore (e ▸ hj)), hg.size, hlow⟩
  exact hblk j (hlts j (by
    simp only [List.mem_append, List.mem_cons] at hj ⊢
    rcases hj with a | a | a
    · exact .inl a
    · exact .inr (.inr (.inr (.inl a)))
    · exact .inr (.inr (.inr (.inr a))))).2 (fun e => h.ne (e ▸ hj))
end
end Go.Proofs.Ytpfjjpihnibnhaa
