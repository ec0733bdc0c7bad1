/- slices.Delete of one rule, out of a row of the call's own. -/
import Derived.Test.YtidikopjfpioaaaAclBuild
import Derived.Test.YtidikopjfpioaaaClone
import Derived.Deep.RegionLaw
import Derived.Deep.Upon
import Derived.Lib.SliceRun
import Derived.Laws.IdiomCopy
set_option linter.unusedVariables false
set_option linter.unusedSimpArgs false
namespace Go.Proofs.Ytidikopjfpioaaa
open Go.RowKit Go.Maps Bdd

def zeroRule : List Value := [.bool false, .int .u16 0, .int .u16 0, .int .u8 0, .int .u8 0]
theorem zeroRuleRun (w : World) : (zeroValue 105).run Try.prog w = .ok (.agg #[.bool false, .int .u16 0, .int .u16 0, .int .u8 0, .int .u8 0]) w := by kernel_rfl

theorem run_clear_rule (w : World) (ty : TypeId) (b o c : Nat) (hc : ∀ j, j < 5 → (w.cell? ⟨b, o + j, none⟩).isSome = true) (hf : ∀ j, j < 5 → w.frozen? ⟨b, o + j, none⟩ = false) :
    (Builtin.clear_ #[27] ty #[.slice (some ⟨b, o, none⟩) 1 c]).run Try.prog w = .ok (.tuple #[]) (w.setCells b o zeroRule) := by
  have hst := run_storeCells_cells (P := Try.prog) b o zeroRule 0 w (by simpa [zeroRule] using hc) (by simpa [zeroRule] using hf) (by intro v hv; simp only [zeroRule, List.mem_cons, List.not_mem_nil, or_false] at hv; rcases hv with rfl | rfl | rfl | rfl | rfl <;> rfl)
  simp only [Nat.add_zero] at hst
  have hz : (Builtin.zeroCells (Value.agg #[.bool false, .int .u16 0, .int .u16 0, .int .u8 0, .int .u8 0]).cells 1).toList = zeroRule := by kernel_rfl
  simp [Builtin.clear_, run_underlying Try.underlying27, zeroRuleRun, hz, hst]

/-- A row of rules of the call's own: block g, n rules of cap. -/
structure RowAt (w : World) (g n cap : Nat) (l : List RuleV) : Prop where
  len : l.length = n
  le : n ≤ cap
  cell : ∀ k r, l[k]? = some r → ∀ j v, r.cells[j]? = some v → w.cell? ⟨g, k * 5 + j, none⟩ = some v
  fr : ∀ o, w.frozen? ⟨g, o, none⟩ = false
  max : cap ≤ 9223372036854775807

theorem RowAt.of_own {w : World} {base n : Nat} {v : Value} {l : List RuleV} (h : w.ownsRow base 105 5 v n (l.flatMap RuleV.cells)) (hl : l.length = n) (hn : 0 < n) : ∃ g cap, v = .slice (some ⟨g, 0, none⟩) n cap ∧ base ≤ g ∧ g < w.heap.size ∧ RowAt w g n cap l := by
  rcases h.2 with ⟨_, h0⟩ | ⟨g, cap, cur, hv, hb, hh, hnc, hcm, hcs, _⟩
  · omega
  · subst hv
    refine ⟨g, cap, rfl, hb, (Array.getElem?_eq_some_iff.1 hh).1, ⟨hl, hnc, fun k r hr j u hu => ?_, fun o => by unfold World.frozen?; rw [hh]; simp, by unfold maxLen at hcm; exact hcm⟩⟩
    have := h.cells (g := g) rfl (k * 5 + j) u (flat_get RuleV.len l k r j u hr hu)
    rw [addr_add, Nat.zero_add] at this
    exact this

theorem eraseIdx_get {α : Type} (l : List α) (i k : Nat) : (l.eraseIdx i)[k]? = if k < i then l[k]? else l[k + 1]? := List.getElem?_eraseIdx ..

def DelP (w : World) (g n cap i : Nat) (l : List RuleV) (e : Ending) (W' : World) : Prop :=
  e = .returned (.slice (some ⟨g, 0, none⟩) (n - 1) cap) ∧ Frm (fun k => k = g) w W' ∧ ∀ k r, (l.eraseIdx i)[k]? = some r → RuleAt W' g (k * 5) r

theorem row_get {w : World} {g n cap : Nat} {l : List RuleV} (h : RowAt w g n cap l) {q : Nat} (hq : q < n * 5) : (w.cell? ⟨g, q, none⟩).isSome = true := by
  have hk : q / 5 < l.length := by rw [h.len]; omega
  have := h.cell (q / 5) l[q / 5] (List.getElem?_eq_getElem hk) (q % 5) (l[q / 5].cells[q % 5]'(by rw [RuleV.len]; omega)) (List.getElem?_eq_getElem _)
  rw [show q / 5 * 5 + q % 5 = q by omega] at this
  rw [this]; rfl

theorem frm_setCells (w : World) (g o : Nat) (vs : List Value) : Frm (fun k => k = g) w (w.setCells g o vs) ∧ (w.setCells g o vs).heap.size = w.heap.size := by
  induction vs generalizing w o with
  | nil => exact ⟨Frm.refl _ _, rfl⟩
  | cons v vs ih =>
    obtain ⟨h1, h2⟩ := ih (w.setCell ⟨g, o, none⟩ v) (o + 1)
    have h0 : Frm (fun k => k = g) w (w.setCell ⟨g, o, none⟩ v) := Frm.setCell (S := fun k => k = g) (p := ⟨g, o, none⟩) rfl v
    exact ⟨h0.trans h1 (fun _ _ h => h), h2.trans (by simp [World.setCell])⟩

/-- The plain side: the rules from i + 1 on moved down, and the last one cleared. -/
theorem del_cells {w : World} {g n cap i : Nat} {l : List RuleV} (h : RowAt w g n cap l) (hi : i < n) :
    ∀ k r, (l.eraseIdx i)[k]? = some r → RuleAt ((w.setCells g (i * 5) ((l.drop (i + 1)).flatMap RuleV.cells)).setCells g ((n - 1) * 5) zeroRule) g (k * 5) r := by
  intro k r hr
  have hnl : ((l.drop (i + 1)).flatMap RuleV.cells).length = (n - 1 - i) * 5 := by rw [flat_length RuleV.len, List.length_drop, h.len]; congr 1; omega
  have hk : k < n - 1 := by
    have := (List.getElem?_eq_some_iff.1 hr).1
    rw [List.length_eraseIdx, h.len, if_pos hi] at this
    exact this
  have hz : zeroRule.length = 5 := rfl
  rw [eraseIdx_get] at hr
  have key : ∀ j u, r.cells[j]? = some u → ((w.setCells g (i * 5) ((l.drop (i + 1)).flatMap RuleV.cells)).setCells g ((n - 1) * 5) zeroRule).cell? ⟨g, k * 5 + j, none⟩ = some u := fun j u hu => by
    have hj : j < 5 := by have := (List.getElem?_eq_some_iff.1 hu).1; rw [RuleV.len] at this; exact this
    rw [World.cell?_setCells_out g zeroRule _ _ _ (fun _ _ => .inl (by show k * 5 + j < (n - 1) * 5; omega))]
    by_cases hki : k < i
    · rw [if_pos hki] at hr
      rw [World.cell?_setCells_out g _ _ _ _ (fun _ _ => .inl (by show k * 5 + j < i * 5; omega))]
      exact h.cell k r hr j u hu
    · rw [if_neg hki] at hr
      have hget : ((l.drop (i + 1)).flatMap RuleV.cells)[(k - i) * 5 + j]? = some u := flat_get RuleV.len _ (k - i) r j u (by rw [List.getElem?_drop, show i + 1 + (k - i) = k + 1 by omega]; exact hr) hu
      obtain ⟨hlt, he⟩ := List.getElem?_eq_some_iff.1 hget
      have := World.cell?_setCells_in g ((l.drop (i + 1)).flatMap RuleV.cells) (i * 5) w (fun q hq => row_get h (by rw [hnl] at hq; omega)) ((k - i) * 5 + j) hlt
      rw [show i * 5 + ((k - i) * 5 + j) = k * 5 + j by omega, he] at this
      exact this
  exact ⟨key 0 _ rfl, key 1 _ rfl, key 2 _ rfl, key 3 _ rfl, key 4 _ rfl⟩

set_option maxRecDepth 100000 in
set_option maxHeartbeats 4000000 in
theorem delRule_walk (w : World) (g n cap i : Nat) (l : List RuleV) (h : RowAt w g n cap l) (hi : i < n) :
    Calls Try.prog 89 #[.slice (some ⟨g, 0, none⟩) n cap, .int .i64 i, .int .i64 ((i : Int) + 1)] w (DelP w g n cap i l) := by
  obtain ⟨i0, hi0, hz0, hz1, hz2⟩ := info_parts Try.infoRule
  obtain ⟨p, rfl⟩ : ∃ p, n = p + 1 := ⟨n - 1, by omega⟩
  have hle := h.le
  have hmax := h.max
  obtain ⟨news, hnews⟩ : ∃ news, news = (l.drop (i + 1)).flatMap RuleV.cells := ⟨_, rfl⟩
  have hnl : news.length = (p - i) * 5 := by rw [hnews, flat_length RuleV.len, List.length_drop, h.len]; congr 1; omega
  have hcast : ((i + 1 : Nat) : Int) = (i : Int) + 1 := by omega
  obtain ⟨A, hA, hsrc⟩ : ∃ A : Addr, (if cap = i + 1 then some (⟨g, 0, none⟩ : Addr) else some ⟨g, (i + 1) * 5, none⟩) = some A ∧ Hid (∀ t u, news[t]? = some u → w.drew.cell? (A.add t) = some u) := by
    by_cases hc : cap = i + 1
    · refine ⟨⟨g, 0, none⟩, by simp [hc], hide (fun t u hu => ?_)⟩
      have h0 : news.length = 0 := by rw [hnl]; omega
      rw [List.length_eq_zero_iff.1 h0] at hu
      simp at hu
    · refine ⟨⟨g, (i + 1) * 5, none⟩, by simp [hc], hide (fun t u hu => ?_)⟩
      rw [addr_add]
      rw [hnews] at hu
      obtain ⟨r, h1, h2⟩ := flat_get_inv RuleV.len (by omega) _ t u hu
      rw [List.getElem?_drop] at h1
      have := h.cell (i + 1 + t / 5) r h1 (t % 5) u h2
      rw [show (i + 1 + t / 5) * 5 + t % 5 = (i + 1) * 5 + t by omega] at this
      exact this
  have s2 : Hid (∀ u ∈ news, u.oneCell' = true) := hide (by rw [hnews]; exact flat_one RuleV.one _)
  have s3 : Hid (∀ t, t < news.length → (w.drew.cell? ⟨g, 0 + i * 5 + t, none⟩).isSome = true ∧ w.drew.frozen? ⟨g, 0 + i * 5 + t, none⟩ = false) := hide (fun t ht => by
    rw [hnl] at ht
    exact ⟨row_get h (by omega), h.fr _⟩)
  have s1 : Hid (news.length = (p - i) * 5) := hide hnl
  obtain ⟨W1, hW1⟩ : ∃ W1, W1 = w.drew.setCells g (0 + i * 5) news := ⟨_, rfl⟩
  have hcell1 : ∀ j, j < 5 → (W1.cell? ⟨g, p * 5 + j, none⟩).isSome = true ∧ W1.frozen? ⟨g, p * 5 + j, none⟩ = false := fun j hj => by
    rw [hW1]
    refine ⟨?_, by rw [World.frozen?_setCells]; exact h.fr _⟩
    rw [World.cell?_setCells_out g _ _ _ _ (fun _ _ => .inr (by show 0 + i * 5 + news.length ≤ p * 5 + j; rw [hnl]; omega))]
    exact row_get h (by omega)
  have hcl : ∀ ty, (Builtin.clear_ #[27] ty #[.slice (some ⟨g, p * 5, none⟩) 1 (cap - p)]).run Try.prog W1 = .ok (.tuple #[]) (W1.setCells g (p * 5) zeroRule) := fun ty => run_clear_rule W1 ty g (p * 5) _ (fun j hj => (hcell1 j hj).1) (fun j hj => (hcell1 j hj).2)
  have HFIN := hide (show DelP w g (p + 1) cap i l (.returned (.slice (some ⟨g, 0, none⟩) p cap)) (W1.setCells g (p * 5) zeroRule) from by
    have hd := del_cells (w := w.drew) (g := g) (cap := cap) (i := i) (l := l) (n := p + 1) ⟨h.len, h.le, h.cell, h.fr, h.max⟩ hi
    rw [Nat.add_sub_cancel] at hd
    refine ⟨by rw [Nat.add_sub_cancel], ?_, ?_⟩
    · rw [hW1]
      exact (Frm.of_below (show RowKit.Below w.heap.size w w.drew from ⟨rfl, rfl, rfl, Nat.le_refl _, fun _ _ => rfl⟩)).trans ((frm_setCells w.drew g (0 + i * 5) news).1.trans (frm_setCells _ g _ zeroRule).1 (fun _ _ h => h)) (fun _ _ h => h)
    · rw [hW1, hnews, Nat.zero_add]
      exact hd)
  have HW := hide hW1
  have hic : i ≤ cap := by omega
  have hjc : i + 1 ≤ cap := by omega
  have hjn : i + 1 ≤ p + 1 := by omega
  have hx1 : (0 : Int) ≤ (i : Int) + 1 := by omega
  have hx2 : i ≤ p := by omega
  have hne : ((i : Int) == (i : Int) + 1) = false := by simp; omega
  clear h hnl hnews hcell1 hW1
  go_enter Try.func89, Try.ntmps89
  go_wp2_with fail
  go_region_law (refine step_append_room rfl (.tmp 22) (.tmp 25) 27 rfl 105 i0 5 Try.underlying27 hi0 hz1 g 0 i cap (by simp [Act.eval, Act.put]) A (p - i) (cap - (i + 1)) news (by simp [Act.eval, Act.put, hA]) s1.out hsrc.out s2.out (by omega) s3.out ?_; rw [← HW.out, show i + (p - i) = p by omega])
  go_wp2
  go_ret
  exact HFIN.out
end Go.Proofs.Ytidikopjfpioaaa
