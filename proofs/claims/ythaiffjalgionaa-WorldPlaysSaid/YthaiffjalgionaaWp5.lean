/- A part of the proof: NetFind, StepClone, KMap, StepKeys, StepStay, NetCheckP. -/
import Derived.Test.YthaiffjalgionaaWp4

set_option linter.unusedVariables false
set_option linter.unusedSimpArgs false
namespace Go.Proofs.Ythaiffjalgionaa
open Go.RowKit

set_option maxRecDepth 100000 in
set_option maxHeartbeats 4000000 in
theorem indexFuncDev_walk (l : List DevV) (b o n c f : Nat) (cap : Array Value) (p : DevV → Bool) (W : World) (hn : n ≤ 9223372036854775807) (hl : SlAt DevV.cells 7 W W.heap.size (some ⟨b, o, none⟩) n l) (h0 : 0 < n)
    (hcall : ∀ (args : Array Value) (w : World), (callFunc f args).run Try.prog w = .ok (.enter f args) w)
    (hf : Hid (∀ (r : DevV) (w : World), r ∈ l → Below W.heap.size W w → Calls Try.prog f (#[r.val] ++ cap) w fun e w' => e = .returned (.bool (p r)) ∧ Below w.heap.size w w')) :
    Calls Try.prog 153 #[.slice (some ⟨b, o, none⟩) n c, .func (.func f) #[] cap] W fun e W' =>
      e = .returned (.int .i64 (idxF p l)) ∧ Below W.heap.size W W' := by
  have HL := hide hl
  clear hl
  go_enter Try.func153, Try.ntmps153
  go_wp2
  go_loopw [5, 8] (fun u i wr => ∃ k : Nat, k ≤ n ∧ i = .int .i64 k ∧ Below W.heap.size W wr ∧ Hid (∀ j r, j < k → l[j]? = some r → p r = false)) (fun _ i _ => n - (intOf i).toNat)
  case atStart => exact ⟨0, Nat.zero_le _, rfl, Below.refl _ _, hide (fun j r h => by omega)⟩
  case round =>
    obtain ⟨k, hk, rfl, hb, HN⟩ := hrel
    have HB := hide hb
    by_cases hlt : k < n
    · obtain ⟨r, hr⟩ : ∃ r, l[k]? = some r := ⟨_, List.getElem?_eq_getElem (by have := HL.out.1; omega)⟩
      obtain ⟨hbB, q0, q1, q2, q3, q4, q5, q6⟩ := dev_get (HL.out.below HB.out HB.out.size) hr
      have HR := hide hr
      clear hr hb
      obtain ⟨nm, kd, ad, pl, bA, bn, bc, bs, rA, rn, rc, rs, tA, tn, tc, ts⟩ := r
      go_wp2_with fail
      refine (hf.out _ _ (List.mem_of_getElem? HR.out) HB.out).mono ?_
      rintro e w1 ⟨rfl, hb1⟩
      have HB1 := hide (HB.out.trans (hb1.mono HB.out.size))
      clear hb1 q0 q1 q2 q3 q4 q5 q6
      generalize hr : (⟨nm, kd, ad, pl, bA, bn, bc, bs, rA, rn, rc, rs, tA, tn, tc, ts⟩ : DevV) = r at *
      clear hr
      cases hp : p r
      · go_wp2
        go_roundw
        case rel =>
          refine ⟨k + 1, by omega, by go_num, HB1.out, hide (fun j r' hj hr' => ?_)⟩
          rcases (by omega : j < k ∨ j = k) with h | rfl
          · exact HN.out j r' h hr'
          · rw [HR.out] at hr'; cases hr'; exact hp
        case measure => simp [intOf]; omega
      · go_wp2
        go_ret
        exact ⟨ret_i64 (idxF_found HR.out hp HN.out).symm, HB1.out⟩
    · go_wp2
      go_ret
      exact ⟨ret_i64 (idxF_none (fun j r hj => HN.out j r (by have := HL.out.1; omega))).symm, hb⟩

set_option maxRecDepth 100000 in
theorem indexFuncDev_nil (A : Option Addr) (c : Nat) (F : Value) (W : World) :
    Calls Try.prog 153 #[.slice A 0 c, F] W fun e W' => e = .returned (.int .i64 (-1)) ∧ W = W' := by
  go_enter Try.func153, Try.ntmps153
  go_wp2
  refine wp_loop_rounds 1 ?_
  rw [rounds_succ]
  go_wp2
  go_ret
  exact ⟨rfl, rfl⟩

theorem indexFuncDev_any (l : List DevV) (A : Option Addr) (n c f : Nat) (cap : Array Value) (p : DevV → Bool) (W : World) (hn : n ≤ 9223372036854775807) (hl : SlAt DevV.cells 7 W W.heap.size A n l)
    (hcall : ∀ (args : Array Value) (w : World), (callFunc f args).run Try.prog w = .ok (.enter f args) w)
    (hf : Hid (∀ (r : DevV) (w : World), r ∈ l → Below W.heap.size W w → Calls Try.prog f (#[r.val] ++ cap) w fun e w' => e = .returned (.bool (p r)) ∧ Below w.heap.size w w')) :
    Calls Try.prog 153 #[.slice A n c, .func (.func f) #[] cap] W fun e W' =>
      e = .returned (.int .i64 (idxF p l)) ∧ Below W.heap.size W W' := by
  rcases Nat.eq_zero_or_pos n with rfl | h0
  · have : l = [] := List.eq_nil_of_length_eq_zero hl.1
    subst this
    exact (indexFuncDev_nil A c _ W).mono fun e w' ⟨he, hw⟩ => ⟨he, hw ▸ Below.refl _ _⟩
  · obtain ⟨b, o, rfl, hb, _⟩ := hl.2 h0
    exact indexFuncDev_walk l b o n c f cap p W hn hl h0 hcall hf

theorem idxF_any {α : Type} (p : α → Bool) (l : List α) : (l.any p = true ∧ ∃ k : Nat, idxF p l = k) ∨ (l.any p = false ∧ idxF p l = -1) := by
  rcases idxF_cases p l with ⟨k, r, hk, _, hr, hp, _⟩ | ⟨hk, hno⟩
  · exact .inl ⟨List.any_eq_true.2 ⟨r, List.mem_of_getElem? hr, hp⟩, k, hk⟩
  · exact .inr ⟨List.any_eq_false.2 fun r hr => by simp [hno r hr], hk⟩

set_option maxRecDepth 100000 in
theorem containsFuncDev_any (l : List DevV) (A : Option Addr) (n c f : Nat) (cap : Array Value) (p : DevV → Bool) (W : World) (hn : n ≤ 9223372036854775807) (hl : SlAt DevV.cells 7 W W.heap.size A n l)
    (hcall : ∀ (args : Array Value) (w : World), (callFunc f args).run Try.prog w = .ok (.enter f args) w)
    (hf : Hid (∀ (r : DevV) (w : World), r ∈ l → Below W.heap.size W w → Calls Try.prog f (#[r.val] ++ cap) w fun e w' => e = .returned (.bool (p r)) ∧ Below w.heap.size w w')) :
    Calls Try.prog 115 #[.slice A n c, .func (.func f) #[] cap] W fun e W' =>
      e = .returned (.bool (l.any p)) ∧ Below W.heap.size W W' := by
  have HC := hide (indexFuncDev_any l A n c f cap p W hn hl hcall hf)
  clear hl hf hcall
  rcases idxF_any p l with ⟨h1, k, h2⟩ | ⟨h1, h2⟩
  all_goals
    rw [h2] at HC
    rw [h1]
    clear h1 h2
    go_enter Try.func115, Try.ntmps115
    go_wp2_with fail
    refine HC.out.mono ?_
    rintro e w1 ⟨rfl, hb⟩
    have HB := hide hb
    clear hb
    go_wp2
    go_ret
    exact ⟨rfl, HB.out⟩

def plCells (x : Pl) : List Value := [.int .i64 x.1, .int .i64 x.2]
theorem plCells_len (x : Pl) : (plCells x).length = 2 := rfl
set_option maxRecDepth 100000 in
set_option maxHeartbeats 4000000 in
theorem indexPl_walk (l : List Pl) (b o n c : Nat) (x y : Int) (W : World) (hn : n ≤ 9223372036854775807) (hl : SlAt plCells 2 W W.heap.size (some ⟨b, o, none⟩) n l) (h0 : 0 < n) :
    Calls Try.prog 156 #[.slice (some ⟨b, o, none⟩) n c, .agg #[.int .i64 x, .int .i64 y]] W fun e W' => e = .returned (.int .i64 (idxF (fun z => eqP (x, y) z) l)) ∧ RowKit.Below W.heap.size W W' := by
  have HL := hide hl
  clear hl
  have hb0 : Below W.heap.size W (W.alloc (.cells #[.int .i64 x, .int .i64 y] 37)) := (Below.refl _ _).alloc (Nat.le_refl _) _
  have HX0 := hide (Box2.new W x y 37)
  have hs0 : (W.alloc (.cells #[.int .i64 x, .int .i64 y] 37)).heap.size = W.heap.size + 1 := by simp
  go_enter Try.func156, Try.ntmps156
  go_wp2
  generalize W.alloc _ = W0 at *
  have HB0 := hide hb0
  clear hb0
  go_loopw [8] (fun i wr => ∃ k : Nat, k ≤ n ∧ i = .int .i64 k ∧ Hid (RowKit.Below W0.heap.size W0 wr) ∧ Hid (∀ j z, j < k → l[j]? = some z → eqP (x, y) z = false)) (fun i _ => n - (intOf i).toNat)
  case atStart => exact ⟨0, Nat.zero_le _, rfl, hide (RowKit.Below.refl _ _), hide (fun j r h => absurd h (by omega))⟩
  case round =>
    obtain ⟨k, hk, rfl, HB, HN⟩ := hrel
    have HBW := hide (HB0.out.trans (HB.out.mono HB0.out.size))
    by_cases hlt : k < n
    · obtain ⟨z, hz⟩ : ∃ r, l[k]? = some r := ⟨_, List.getElem?_eq_getElem (by have := HL.out.1; omega)⟩
      obtain ⟨hbB, hg⟩ := (HL.out.below HBW.out HBW.out.size).get hz
      have q0 := hg 0 _ rfl
      have q1 := hg 1 _ rfl
      obtain ⟨x0, x1, _, _⟩ := HX0.out.below HB.out (by omega)
      have HZ := hide hz
      clear hz hg
      obtain ⟨z1, z2⟩ := z
      rw [Nat.add_zero] at q0
      cases e1 : (x == z1)
      · go_wp2
        go_quiet (fail)
        go_wp2
        go_roundw
        case rel => exact ⟨k + 1, by omega, by go_num, hide (HB.out.trans (below_drew _ _ _)), hide (fun j r hj hr => by
          rcases (by omega : j < k ∨ j = k) with h | rfl
          · exact HN.out j r h hr
          · have e := HZ.out; rw [e] at hr; cases hr; simp only [eqP, e1, Bool.false_and, Bool.and_false])⟩
        case measure => simp [intOf]; omega
      cases e2 : (y == z2)
      · go_wp2
        go_quiet (fail)
        go_wp2
        go_roundw
        case rel => exact ⟨k + 1, by omega, by go_num, hide (HB.out.trans (below_drew _ _ _)), hide (fun j r hj hr => by
          rcases (by omega : j < k ∨ j = k) with h | rfl
          · exact HN.out j r h hr
          · have e := HZ.out; rw [e] at hr; cases hr; simp only [eqP, e1, e2, Bool.false_and, Bool.and_false])⟩
        case measure => simp [intOf]; omega
      · have HF := hide (idxF_found (p := fun z => eqP (x, y) z) HZ.out (by simp only [eqP, e1, e2]; rfl) HN.out)
        go_wp2
        go_quiet (fail)
        go_wp2
        go_ret
        exact ⟨ret_i64 HF.out.symm, HBW.out.trans (below_drew _ _ _)⟩
    · have HF := hide (idxF_none (p := fun z => eqP (x, y) z) (l := l) (fun j r hj hr => HN.out j r (by have := HL.out.1; omega) hr))
      go_wp2
      go_ret
      exact ⟨ret_i64 HF.out.symm, HBW.out⟩

set_option maxRecDepth 100000 in
theorem indexPl_nil (A : Option Addr) (c : Nat) (x y : Int) (W : World) : Calls Try.prog 156 #[.slice A 0 c, .agg #[.int .i64 x, .int .i64 y]] W fun e W' => e = .returned (.int .i64 (-1)) ∧ RowKit.Below W.heap.size W W' := by
  go_enter Try.func156, Try.ntmps156
  go_wp2
  refine wp_loop_rounds 1 ?_
  rw [rounds_succ]
  go_wp2
  go_ret
  exact ⟨rfl, (Below.refl _ _).alloc (Nat.le_refl _) _⟩

theorem indexPl_any (l : List Pl) (A : Option Addr) (n c : Nat) (x y : Int) (W : World) (hn : n ≤ 9223372036854775807) (hl : SlAt plCells 2 W W.heap.size A n l) :
    Calls Try.prog 156 #[.slice A n c, .agg #[.int .i64 x, .int .i64 y]] W fun e W' => e = .returned (.int .i64 (idxF (fun z => eqP (x, y) z) l)) ∧ RowKit.Below W.heap.size W W' := by
  rcases Nat.eq_zero_or_pos n with rfl | h0
  · have : l = [] := List.eq_nil_of_length_eq_zero hl.1
    subst this
    exact indexPl_nil A c x y W
  · obtain ⟨b, o, rfl, hb, _⟩ := hl.2 h0
    exact indexPl_walk l b o n c x y W hn hl h0

set_option maxRecDepth 100000 in
theorem containsPl_any (l : List Pl) (A : Option Addr) (n c : Nat) (x y : Int) (W : World) (hn : n ≤ 9223372036854775807) (hl : SlAt plCells 2 W W.heap.size A n l) :
    Calls Try.prog 119 #[.slice A n c, .agg #[.int .i64 x, .int .i64 y]] W fun e W' => e = .returned (.bool (l.any fun z => eqP (x, y) z)) ∧ RowKit.Below W.heap.size W W' := by
  have hb0 : Below W.heap.size W (W.alloc (.cells #[.int .i64 x, .int .i64 y] 37)) := (Below.refl _ _).alloc (Nat.le_refl _) _
  have HC := hide (indexPl_any l A n c x y (W.alloc (.cells #[.int .i64 x, .int .i64 y] 37)) hn (hl.below hb0 hb0.size))
  have HB0 := hide hb0
  clear hl hb0
  rcases idxF_any (fun z => eqP (x, y) z) l with ⟨h1, k, h2⟩ | ⟨h1, h2⟩
  all_goals
    rw [h2] at HC
    rw [h1]
    clear h1 h2
    go_enter Try.func119, Try.ntmps119
    go_wp2_with fail
    refine HC.out.mono ?_
    rintro e w1 ⟨rfl, hb⟩
    have HB := hide (HB0.out.trans (hb.mono HB0.out.size))
    clear hb
    go_wp2
    go_ret
    exact ⟨rfl, HB.out⟩
end Go.Proofs.Ythaiffjalgionaa

set_option linter.unusedVariables false
set_option linter.unusedSimpArgs false
namespace Go.Proofs.Ythaiffjalgionaa
open Go.ChangeShapes Go.WideShapes Go.ChangeAt Go.RowKit

theorem LinkV.one (r : LinkV) : ∀ u ∈ r.cells, u.oneCell' = true := by
  intro u hu
  simp only [LinkV.cells, List.mem_cons, List.not_mem_nil, or_false] at hu
  rcases hu with rfl | rfl | rfl | rfl <;> rfl
def i64Cells (k : Int) : List Value := [.int .i64 k]
theorem i64Cells_len (k : Int) : (i64Cells k).length = 1 := rfl
theorem i64Cells_one (k : Int) : ∀ u ∈ i64Cells k, u.oneCell' = true := by
  intro u hu
  simp only [i64Cells, List.mem_cons, List.not_mem_nil, or_false] at hu
  subst hu; rfl

theorem Try.infoLink : (Try.prog.info? 99).map (fun i => (i.zero, i.size, i.bytes)) = some (some (.agg #[.int .i64 0, .int .i64 0, .int .i64 0, .int .i64 0]), 4, 32) := by kernel_rfl
theorem Try.infoDevice : (Try.prog.info? 97).map (fun i => (i.zero, i.size, i.bytes)) = some (some (.agg #[.string ⟨#[]⟩, .int .i64 0, .int .i64 0, .int .u8 0, .slice none 0 0, .slice none 0 0, .slice none 0 0]), 7, 112) := by kernel_rfl

set_option maxRecDepth 100000 in
theorem cloneLink_walk (l : List LinkV) (A : Option Addr) (n c : Nat) (W : World) (hn : n ≤ 1048576) (hl : SlAt LinkV.cells 4 W W.heap.size A n l) :
    Calls Try.prog 107 #[.slice A n c] W fun e W' =>
      ∃ v, e = .returned v ∧ W'.ownsRow W.heap.size 99 4 v n (l.flatMap LinkV.cells) ∧ Below W.heap.size W W' := by
  obtain ⟨i0, hi0, hz0, hz1, hz2⟩ := info_parts Try.infoLink
  rcases A with _ | ad
  · have hn0 : n = 0 := by
      rcases Nat.eq_zero_or_pos n with h | h
      · exact h
      · obtain ⟨b, o, e, _⟩ := hl.2 h; cases e
    subst hn0
    have : l = [] := List.eq_nil_of_length_eq_zero hl.1
    subst this
    have heq := fun w => Lib.run_eql_slice_nil (P := Try.prog) w _ _ none 0 c 0 0 Try.underlying23
    go_enter Try.func107, Try.ntmps107
    go_wp2
    go_ret
    exact ⟨_, rfl, World.ownsRow_nil _ _ _ _, Below.refl _ _⟩
  · have HR := hide (hl.reads LinkV.len (by omega))
    clear hl
    have heq := fun w => Lib.run_eql_slice_nil (P := Try.prog) w _ _ (some ad) n c 0 0 Try.underlying23
    go_enter Try.func107, Try.ntmps107
    go_wp2_with (at_builtin; refine wpList_append_any _ rfl (.tmp 5) (.tmp 6) 23 rfl W.heap.size 99 i0 _ 4 32 Try.underlying23 hi0 hz0 hz1 hz2 rfl (by omega) (.slice (some ⟨W.heap.size, 0, none⟩) 0 0) 0 [] rfl (World.ownsRow_lit _ #[] 0 (Nat.le_refl _) (by decide) rfl) W.heap.size (some ad) n c _ rfl (HR.out.alloc (Nat.le_refl _) _) (flat_one LinkV.one l) (by simp only [maxLen]; omega) (by omega) (by simp) ?_; intro v1 w1 hown1 hg1 hat1)
    go_ret
    refine ⟨v1, rfl, by simpa using hown1, ((Below.refl _ _).alloc (Nat.le_refl _) _).grown hg1 (by simp) (fun k hk => ?_)⟩
    simp [Value.ownBlock] at hk
    omega
set_option maxRecDepth 100000 in
theorem cloneInt_walk (l : List Int) (A : Option Addr) (n c : Nat) (W : World) (hn : n ≤ 1048576) (hl : SlAt i64Cells 1 W W.heap.size A n l) :
    Calls Try.prog 132 #[.slice A n c] W fun e W' =>
      ∃ v, e = .returned v ∧ W'.ownsRow W.heap.size 3 1 v n (l.flatMap i64Cells) ∧ Below W.heap.size W W' := by
  obtain ⟨i0, hi0, hz0, hz1, hz2⟩ := info_parts Try.infoInt
  rcases A with _ | ad
  · have hn0 : n = 0 := by
      rcases Nat.eq_zero_or_pos n with h | h
      · exact h
      · obtain ⟨b, o, e, _⟩ := hl.2 h; cases e
    subst hn0
    have : l = [] := List.eq_nil_of_length_eq_zero hl.1
    subst this
    have heq := fun w => Lib.run_eql_slice_nil (P := Try.prog) w _ _ none 0 c 0 0 Try.underlying66
    go_enter Try.func132, Try.ntmps132
    go_wp2
    go_ret
    exact ⟨_, rfl, World.ownsRow_nil _ _ _ _, Below.refl _ _⟩
  · have HR := hide (hl.reads i64Cells_len (by omega))
    clear hl
    have heq := fun w => Lib.run_eql_slice_nil (P := Try.prog) w _ _ (some ad) n c 0 0 Try.underlying66
    go_enter Try.func132, Try.ntmps132
    go_wp2_with (at_builtin; refine wpList_append_any _ rfl (.tmp 5) (.tmp 6) 66 rfl W.heap.size 3 i0 _ 1 8 Try.underlying66 hi0 hz0 hz1 hz2 rfl (by omega) (.slice (some ⟨W.heap.size, 0, none⟩) 0 0) 0 [] rfl (World.ownsRow_lit _ #[] 0 (Nat.le_refl _) (by decide) rfl) W.heap.size (some ad) n c _ rfl (HR.out.alloc (Nat.le_refl _) _) (flat_one i64Cells_one l) (by simp only [maxLen]; omega) (by omega) (by simp) ?_; intro v1 w1 hown1 hg1 hat1)
    go_ret
    refine ⟨v1, rfl, by simpa using hown1, ((Below.refl _ _).alloc (Nat.le_refl _) _).grown hg1 (by simp) (fun k hk => ?_)⟩
    simp [Value.ownBlock] at hk
    omega
end Go.Proofs.Ythaiffjalgionaa

set_option linter.unusedVariables false
set_option linter.unusedSimpArgs false
namespace Go.Proofs.Ythaiffjalgionaa
open Go.RowKit Go.Maps Go.WideElems

structure KeysAny {α : Type} (P : Program) (kt : TypeId) (key : α → Value) (dom : α → Prop) : Prop where
  law : Keyed P kt
  total : ∀ a, dom a → ∃ kl, keyOf P kt (key a) = some kl
  inj : ∀ a a', key a = key a' → a = a'

def cutM {α : Type} [DecidableEq α] (M : α → Option Value) (a : α) : α → Option Value := fun x => if x = a then none else M x

section
variable {α : Type} {P : Program} {kt : TypeId} {key : α → Value} {dom : α → Prop} {w w' : World} {b : Nat} {M : α → Option Value}

theorem MapIs.sizeA (h : MapIs P kt key dom w b M) (K : KeysAny P kt key dom) (L : List α) (hL : L.length < maxLen) (hall : ∀ a, dom a → (M a).isSome = true → a ∈ L) : ∃ D, w.ownsMap P kt heldR b (Maps.size D) D ∧ Maps.size D < maxLen ∧
    (∀ a, dom a → ∀ kl, keyOf P kt (key a) = some kl → Maps.has D kl = (M a).isSome ∧ ∀ z, D.atKey kl (.held z) = .held ((M a).getD z)) ∧
    (∀ kl, Maps.has D kl = true → ∃ a, dom a ∧ keyOf P kt (key a) = some kl) := by
  obtain ⟨D, h1, h2, h3⟩ := h
  refine ⟨D, h1, ?_, h2, h3⟩
  have ht := h1.tidy K.law
  obtain ⟨es, rfl, hp⟩ := ht
  have hk : ∀ p ∈ es, WideAt.IsKeyLit p.1 := by
    obtain ⟨es', clock, _, F, _, hD⟩ := h1
    simp only [DataW.map.injEq] at hD
    intro p hpm
    rw [hD] at hpm
    have hm := (Go.WideShapes.sorted_perm _).mem_iff.1 hpm
    obtain ⟨v, hv⟩ := fit_keys F p hm
    exact K.law.key hv
  have hsz : es.length ≤ (L.filterMap fun a => keyOf P kt (key a)).length := by
    have := length_le_of_subset' (es.map (·.1)) (L.filterMap fun a => keyOf P kt (key a)) (by
      rw [List.nodup_iff_pairwise_ne, List.pairwise_map]; exact hp) (fun kl hkl => by
      obtain ⟨p, hpm, rfl⟩ := List.mem_map.1 hkl
      have hh : Maps.has (.map es) p.1 = true := by
        rw [Maps.has_eq, List.any_eq_true]
        exact ⟨p, hpm, WideAt.sameKey_self (hk p hpm)⟩
      obtain ⟨a, ha, hka⟩ := h3 p.1 hh
      exact List.mem_filterMap.2 ⟨a, hall a ha ((h2 a ha _ hka).1.symm.trans hh), hka⟩)
    simpa using this
  have := List.length_filterMap_le (fun a => keyOf P kt (key a)) L
  show es.length < maxLen
  omega

theorem MapIs.lookA {t et : TypeId} (h : MapIs P kt key dom w b M) (K : KeysAny P kt key dom) (ht : P.underlying t = some (.map kt et)) {z : Value} (hz : (zeroValue et).run P w = .ok z w) {a : α} (ha : dom a) :
    (Instr.lookup t (.map (some b)) (key a) true).run P w = .ok (.tuple #[(M a).getD z, .bool (M a).isSome]) w ∧ (Instr.lookup t (.map (some b)) (key a) false).run P w = .ok ((M a).getD z) w := by
  obtain ⟨D, h1, h2, h3⟩ := h
  obtain ⟨kl, hkl⟩ := K.total a ha
  obtain ⟨e1, e2⟩ := h2 a ha kl hkl
  obtain ⟨v, ps, hrun, hv⟩ := h1.look_ok K.law ht hz (zd := .held z) (zp := []) rfl hkl
  obtain ⟨v', ps', hrun', hv'⟩ := h1.lookup K.law ht hz (zd := .held z) (zp := []) rfl hkl
  rw [e2 z] at hv hv'
  simp only [heldR, Option.some.injEq, Prod.mk.injEq, DataW.held.injEq] at hv hv'
  rw [hrun, hrun', e1, hv.1, hv'.1]
  exact ⟨rfl, rfl⟩

theorem MapIs.storeA [DecidableEq α] {t et : TypeId} (h : MapIs P kt key dom w b M) (K : KeysAny P kt key dom) (L : List α) (hL : L.length < maxLen) (hall : ∀ a, dom a → (M a).isSome = true → a ∈ L) (ht : P.underlying t = some (.map kt et)) {a : α} (ha : dom a) (v : Value) :
    ∃ w', (Instr.mapUpdate t (.map (some b)) (key a) v).run P w = .ok () w' ∧ MapIs P kt key dom w' b (putM M a v) ∧ w.mapTurned w' b := by
  obtain ⟨D, h1, hn, h2, h3⟩ := h.sizeA K L hL hall
  obtain ⟨kl, hkl⟩ := K.total a ha
  obtain ⟨w', hrun, r1, r2⟩ := h1.store K.law ht hn hkl (val := v) (d := .held v) (ps := []) rfl
  have hD : IsMap D := (h1.tidy K.law).isMap
  refine ⟨w', hrun, ⟨D.put kl (.held v), ownsMap_tight r1, ?_, ?_⟩, r2⟩
  · intro a' ha' kl' hkl'
    by_cases e : a' = a
    · subst e
      have : kl' = kl := Option.some.inj (hkl'.symm.trans hkl)
      subst this
      rw [putM_same]
      exact ⟨Maps.has_put_same hD (K.law.key hkl) _, fun z => Maps.atKey_put_same hD (K.law.key hkl) _ _⟩
    · rw [putM_other M v e]
      have hne : kl' ≠ kl := fun ek => by subst ek; exact e (K.inj _ _ (K.law.inj hkl' hkl))
      rw [Maps.has_put_other hne]
      obtain ⟨q1, q2⟩ := h2 a' ha' kl' hkl'
      exact ⟨q1, fun z => by rw [Maps.atKey_put_other hne]; exact q2 z⟩
  · intro kl' hkl'
    by_cases e : kl' = kl
    · subst e; exact ⟨a, ha, hkl⟩
    · rw [Maps.has_put_other e] at hkl'
      exact h3 kl' hkl'

theorem MapIs.dropA [DecidableEq α] {t et : TypeId} (h : MapIs P kt key dom w b M) (K : KeysAny P kt key dom) (ht : P.underlying t = some (.map kt et)) {a : α} (ha : dom a) (ty : TypeId) :
    ∃ w', (Builtin.delete_ #[t, kt] ty #[.map (some b), key a]).run P w = .ok (.tuple #[]) w' ∧ MapIs P kt key dom w' b (cutM M a) ∧ w.mapTurned w' b := by
  obtain ⟨D, h1, h2, h3⟩ := h
  obtain ⟨kl, hkl⟩ := K.total a ha
  obtain ⟨w', hrun, r1, r2⟩ := h1.drop K.law ht hkl ty
  refine ⟨w', hrun, ⟨D.del kl, ownsMap_tight r1, ?_, ?_⟩, r2⟩
  · intro a' ha' kl' hkl'
    by_cases e : a' = a
    · subst e
      have : kl' = kl := Option.some.inj (hkl'.symm.trans hkl)
      subst this
      have hc : cutM M a' a' = none := by simp [cutM]
      rw [hc]
      exact ⟨Maps.has_del_same, fun z => Maps.atKey_del_same _⟩
    · have hc : cutM M a a' = M a' := by simp [cutM, e]
      rw [hc]
      have hne : kl' ≠ kl := fun ek => by subst ek; exact e (K.inj _ _ (K.law.inj hkl' hkl))
      rw [Maps.has_del_other hne]
      obtain ⟨q1, q2⟩ := h2 a' ha' kl' hkl'
      exact ⟨q1, fun z => by rw [Maps.atKey_del_other hne]; exact q2 z⟩
  · intro kl' hkl'
    by_cases e : kl' = kl
    · subst e; exact ⟨a, ha, hkl⟩
    · rw [Maps.has_del_other e] at hkl'
      exact h3 kl' hkl'
end

section
variable {α : Type} {P : Program} {kt : TypeId} {key : α → Value} {dom : α → Prop} {b : Nat} {M : α → Option Value} (w : World)

end
end Go.Proofs.Ythaiffjalgionaa

set_option linter.unusedVariables false
set_option linter.unusedSimpArgs false
namespace Go.Proofs.Ythaiffjalgionaa
open Go.RowKit Go.Maps Go.WideElems

abbrev OfK := Int × P4
def ofVal (k : OfK) : Value := .agg #[.int .i64 k.1, .int .i64 k.2.src, .int .i64 k.2.dst, .int .i64 k.2.sport, .int .i64 k.2.dport]
def ofDom (k : OfK) : Prop := i64ok k.1 ∧ k.2.ok
abbrev PoK := Int × Int
def poVal (k : PoK) : Value := .agg #[.int .i64 k.1, .int .i64 k.2]
def poDom (k : PoK) : Prop := i64ok k.1 ∧ i64ok k.2

theorem ofVal_inj (a b : OfK) (h : ofVal a = ofVal b) : a = b := by
  obtain ⟨a0, a1, a2, a3, a4⟩ := a
  obtain ⟨b0, b1, b2, b3, b4⟩ := b
  simp only [ofVal, Value.agg.injEq, Array.mk.injEq, List.cons.injEq, Value.int.injEq, true_and, and_true] at h
  obtain ⟨rfl, rfl, rfl, rfl, rfl⟩ := h
  rfl
theorem poVal_inj (a b : PoK) (h : poVal a = poVal b) : a = b := by
  obtain ⟨a0, a1⟩ := a
  obtain ⟨b0, b1⟩ := b
  simp only [poVal, Value.agg.injEq, Array.mk.injEq, List.cons.injEq, Value.int.injEq, true_and, and_true] at h
  obtain ⟨rfl, rfl⟩ := h
  rfl

theorem i64ok_wf {x : Int} (h : i64ok x) : (Lit.int .i64 x).wf = true := by
  have hx : -9223372036854775808 ≤ x ∧ x ≤ 9223372036854775807 := h
  simpa [Lit.wf, IntKind.min, IntKind.max, IntKind.signed, IntKind.bits] using hx

theorem rowOf : decide (149 < Try.prog.types.size) = true := by kernel_rfl
theorem rowPo : decide (152 < Try.prog.types.size) = true := by kernel_rfl
theorem atOf : Try.prog.keyTypeAt 3 149 = true := by kernel_rfl
theorem atPo : Try.prog.keyTypeAt 2 152 = true := by kernel_rfl
theorem keyOfT : Try.prog.keyType 149 = true := by kernel_rfl
theorem keyPoT : Try.prog.keyType 152 = true := by kernel_rfl
theorem cellsOf5 : Try.prog.cellsOf 149 = 5 := by kernel_rfl
theorem cellsPo2 : Try.prog.cellsOf 152 = 2 := by kernel_rfl
theorem lawOf : Keyed Try.prog 149 := Keyed.of_law (deep_law_laid Try.laidOut (m := 3) (by omega) (of_decide_eq_true rowOf) atOf (by rw [Try.underlying149]))
theorem lawPo : Keyed Try.prog 152 := Keyed.of_law (deep_law_laid Try.laidOut (m := 2) (by omega) (of_decide_eq_true rowPo) atPo (by rw [Try.underlying152]))

theorem pair_key {P : Program} {k i : TypeId} {f1 f2 : Field} (hu : P.underlying k = some (.struct #[f1, f2])) (h1 : f1.type = i ∧ f1.offset = 0 ∧ f1.name ≠ "_") (h2 : f2.type = i ∧ f2.offset = 1 ∧ f2.name ≠ "_")
    (hi : P.underlying i = some (.int .i64)) (hk : P.keyType k = true) (hc : P.cellsOf k = 2) (hci : P.cellsOf i = 1) (hm : ∃ m, P.types.size = m + 1) (t : PoK) (ht : poDom t) : ∃ kl, keyOf P k (poVal t) = some kl := by
  obtain ⟨a, b⟩ := t
  have w1 := i64ok_wf ht.1
  have w2 := i64ok_wf ht.2
  obtain ⟨m, hm⟩ := hm
  unfold keyOf
  rw [hu]
  simp [hk, Value.formed, hu, poVal, hc, Value.cells, hm, Program.keyLits, hci, hi, w1, w2, h1, h2]

theorem of_key {P : Program} {k i q : TypeId} {f1 f2 g1 g2 g3 g4 : Field} (hu : P.underlying k = some (.struct #[f1, f2])) (hq : P.underlying q = some (.struct #[g1, g2, g3, g4])) (h1 : f1.type = i ∧ f1.offset = 0 ∧ f1.name ≠ "_") (h2 : f2.type = q ∧ f2.offset = 1 ∧ f2.name ≠ "_")
    (j1 : g1.type = i ∧ g1.offset = 0 ∧ g1.name ≠ "_") (j2 : g2.type = i ∧ g2.offset = 1 ∧ g2.name ≠ "_") (j3 : g3.type = i ∧ g3.offset = 2 ∧ g3.name ≠ "_") (j4 : g4.type = i ∧ g4.offset = 3 ∧ g4.name ≠ "_")
    (hi : P.underlying i = some (.int .i64)) (hk : P.keyType k = true) (hc : P.cellsOf k = 5) (hcq : P.cellsOf q = 4) (hci : P.cellsOf i = 1) (hm : ∃ m, P.types.size = m + 2) (t : OfK) (ht : ofDom t) : ∃ kl, keyOf P k (ofVal t) = some kl := by
  obtain ⟨a, b, c, d, e⟩ := t
  have w1 := i64ok_wf ht.1
  have w2 := i64ok_wf ht.2.1
  have w3 := i64ok_wf ht.2.2.1
  have w4 := i64ok_wf ht.2.2.2.1
  have w5 := i64ok_wf ht.2.2.2.2
  simp only at w1 w2 w3 w4 w5
  obtain ⟨m, hm⟩ := hm
  unfold keyOf
  rw [hu]
  have hall : ∀ (i : Nat) (x : i < 4), ¬([g1, g2, g3, g4][i]'x).name = "_" := fun i x => match i, x with
    | 0, _ => j1.2.2
    | 1, _ => j2.2.2
    | 2, _ => j3.2.2
    | 3, _ => j4.2.2
  simp [hall, hk, Value.formed, hu, hq, ofVal, hc, hcq, Value.cells, hm, Program.keyLits, hci, hi, w1, w2, w3, w4, w5, h1, h2, j1, j2, j3, j4]

theorem types_succ2 : ∃ m, Try.prog.types.size = m + 2 := by
  have h : decide (149 < Try.prog.types.size) = true := rowOf
  have h2 := of_decide_eq_true h
  exact ⟨Try.prog.types.size - 2, by omega⟩

theorem poKeys : KeysAny Try.prog 152 poVal poDom :=
  ⟨lawPo, pair_key Try.underlying152 ⟨rfl, rfl, by decide⟩ ⟨rfl, rfl, by decide⟩ Try.underlying3 keyPoT cellsPo2 cellsI types_succ, poVal_inj⟩
theorem ofKeys : KeysAny Try.prog 149 ofVal ofDom :=
  ⟨lawOf, of_key Try.underlying149 Try.underlying39 ⟨rfl, rfl, by decide⟩ ⟨rfl, rfl, by decide⟩ ⟨rfl, rfl, by decide⟩ ⟨rfl, rfl, by decide⟩ ⟨rfl, rfl, by decide⟩ ⟨rfl, rfl, by decide⟩ Try.underlying3 keyOfT cellsOf5 Try.cellsPacket cellsI types_succ2, ofVal_inj⟩
end Go.Proofs.Ythaiffjalgionaa

set_option linter.unusedVariables false
set_option linter.unusedSimpArgs false
namespace Go.Proofs.Ythaiffjalgionaa
open Go.RowKit

def StayOn (p : Nat → Prop) (w w' : World) : Prop := ∀ (a : Addr) (v : Value), p a.block → w.cell? a = some v → w'.cell? a = some v

section
variable {p : Nat → Prop} {w w' w'' : World} {B B' n : Nat} {A : Option Addr}

theorem cell_lt {a : Addr} {v : Value} (h : w.cell? a = some v) : a.block < w.heap.size := by
  by_cases hl : a.block < w.heap.size
  · exact hl
  · exfalso
    have hn : w.heap[a.block]? = none := Array.getElem?_eq_none (by omega)
    simp [World.cell?, hn] at h

theorem StayOn.trans (h : StayOn p w w') (h' : StayOn p w' w'') : StayOn p w w'' := fun a v hp hv => h' a v hp (h a v hp hv)
theorem StayOn.of_below (h : Below B w w') : StayOn (fun k => k < B) w w' := fun a v hp hv => (h.cell (p := a) hp).trans hv
theorem StayOn.of_grown {row : Option Nat} (h : w.grownBy w' row) : StayOn (fun k => some k ≠ row) w w' := fun a v hp hv =>
  (World.cell?_of_block (h.block a.block (cell_lt hv) hp)).trans hv
theorem StayOn.of_turned {b : Nat} (h : w.mapTurned w' b) : StayOn (fun _ => True) w w' := fun a v _ hv => by
  by_cases e : a.block = b
  · exfalso
    obtain ⟨es, clock, es', clock', hb, _⟩ := h
    simp [World.cell?, e, hb] at hv
  · exact StayOn.of_grown h.grown a v (by simpa using e) hv
theorem StayOn.of_set (q : Addr) (u : Value) : StayOn (fun k => k ≠ q.block) w (w.setCell q u) := fun a v hp hv =>
  (World.cell?_of_block (Below.heap_setCell w q u a.block hp)).trans hv
theorem StayOn.weak {q : Nat → Prop} (h : StayOn p w w') (hq : ∀ k, q k → p k) : StayOn q w w' := fun a v hp hv => h a v (hq _ hp) hv

theorem SlAt.stay {α : Type} {cells : α → List Value} {s : Nat} {l : List α} (h : SlAt cells s w B A n l) (hs : StayOn p w w') (hp : ∀ a, A = some a → p a.block) (hB : B ≤ B') : SlAt cells s w' B' A n l :=
  ⟨h.1, fun h0 => by
    obtain ⟨b, o, e, hb, hg⟩ := h.2 h0
    exact ⟨b, o, e, by omega, fun k r hr j v hv => hs _ _ (show p b from hp _ e) (hg k r hr j v hv)⟩⟩
theorem IntsAt.stay {l : List Int} (h : IntsAt w B A n l) (hs : StayOn p w w') (hp : ∀ a, A = some a → p a.block) (hB : B ≤ B') : IntsAt w' B' A n l :=
  ⟨h.1, h.2.1, fun h0 => by
    obtain ⟨b, o, e, hb, hg⟩ := h.2.2 h0
    exact ⟨b, o, e, by omega, fun k x hx => hs _ _ (show p b from hp _ e) (hg k x hx)⟩⟩
theorem RulesAt.stay {l : List RuleV} (h : RulesAt w B A n l) (hs : StayOn p w w') (hp : ∀ a, A = some a → p a.block) (hB : B ≤ B') : RulesAt w' B' A n l :=
  (h.sl.stay hs hp hB).rules h.2.1

structure DevOn (p : Nat → Prop) (d : DevV) : Prop where
  b : ∀ a, d.bA = some a → p a.block
  r : ∀ a, d.rA = some a → p a.block
  t : ∀ a, d.tA = some a → p a.block
theorem DevOn.weak {q : Nat → Prop} {d : DevV} (h : DevOn p d) (hq : ∀ k, p k → q k) : DevOn q d := ⟨fun a e => hq _ (h.b a e), fun a e => hq _ (h.r a e), fun a e => hq _ (h.t a e)⟩
theorem DevAt.stay {d : DevV} (h : DevAt w B d) (hs : StayOn p w w') (hp : DevOn p d) (hB : B ≤ B') : DevAt w' B' d :=
  ⟨h.nm, h.kd, h.ad, h.pl, h.bs.stay hs hp.b hB, h.rs.stay hs hp.r hB, h.ts.stay hs hp.t hB, h.tok, h.cb, h.cr, h.ct⟩
theorem NetAt.stay {m : NetV} (h : NetAt w B m) (hs : StayOn p w w') (hd : ∀ a, m.dA = some a → p a.block) (hl : ∀ a, m.lA = some a → p a.block) (ho : ∀ d ∈ m.ds, DevOn p d) (hB : B ≤ B') : NetAt w' B' m :=
  { ds := h.ds.stay hs hd hB, dok := fun d hm => (h.dok d hm).stay hs (ho d hm) hB, ls := h.ls.stay hs hl hB, lok := h.lok, cd := h.cd, cl := h.cl }
end

section
variable {α : Type} {P : Program} {kt : TypeId} {key : α → Value} {dom : α → Prop} {w w' : World} {b c : Nat} {M : α → Option Value}
theorem MapIs.below {B : Nat} (h : MapIs P kt key dom w b M) (hb : Below B w w') (hB : b < B) : MapIs P kt key dom w' b M := h.same (hb.block b hB)
theorem MapIs.turned (h : MapIs P kt key dom w b M) (ht : w.mapTurned w' c) (hne : b ≠ c) : MapIs P kt key dom w' b M := h.kept ht.grown (by simpa using hne)
end
end Go.Proofs.Ythaiffjalgionaa

set_option linter.unusedVariables false
set_option linter.unusedSimpArgs false
namespace Go.Proofs.Ythaiffjalgionaa
open Go.RowKit

def nameEq (a b : ByteArray) : Bool := decide (a.toList = b.toList)
def devsE : List Dev → List Dev → Int
  | _, [] => 0
  | pre, d :: t => if namedB d.name = false then 3 else if pre.any (fun x => nameEq x.name d.name) then 5 else if devE d = 0 then devsE (pre ++ [d]) t else devE d
theorem devsE_step {l : List Dev} {k : Nat} {d : Dev} (h : l[k]? = some d) :
    devsE (l.take k) (l.drop k) = if namedB d.name = false then 3 else if (l.take k).any (fun x => nameEq x.name d.name) then 5 else if devE d = 0 then devsE (l.take (k + 1)) (l.drop (k + 1)) else devE d := by
  obtain ⟨hk, e⟩ := List.getElem?_eq_some_iff.1 h
  rw [List.drop_eq_getElem_cons hk, e, List.take_succ_eq_append_getElem hk, e]; rfl
def kindAt (ds : List Dev) (i : Int) : Int := ((ds[i.toNat]?).map (·.kind)).getD 0
def placeB (ds : List Dev) (x : Pl) : Bool := (decide (0 ≤ x.1) && decide (x.1 < ds.length)) && (decide (0 ≤ x.2) && decide (x.2 < portsF (kindAt ds x.1)))
def takenB (ends : List Pl) (l : LinkV) : Bool := eqP l.e1 l.e2 || ends.any (fun z => eqP l.e1 z) || ends.any (fun z => eqP l.e2 z)
def linksE (ds : List Dev) : List Pl → List LinkV → Int
  | _, [] => 0
  | ends, l :: t => if placeB ds l.e1 = false then 1 else if placeB ds l.e2 = false then 1 else if takenB ends l then 5 else linksE ds (ends ++ [l.e1, l.e2]) t
theorem linksE_step {ds : List Dev} {ls : List LinkV} {ends : List Pl} {k : Nat} {l : LinkV} (h : ls[k]? = some l) :
    linksE ds ends (ls.drop k) = if placeB ds l.e1 = false then 1 else if placeB ds l.e2 = false then 1 else if takenB ends l then 5 else linksE ds (ends ++ [l.e1, l.e2]) (ls.drop (k + 1)) := by
  obtain ⟨hk, e⟩ := List.getElem?_eq_some_iff.1 h
  rw [List.drop_eq_getElem_cons hk, e]; rfl
def netE (ds : List Dev) (ls : List LinkV) : Int :=
  if 10 < ds.length ∨ 15 < ls.length then 2 else if devsE [] ds = 0 then linksE ds [] ls else devsE [] ds

theorem placeB_iff {ds : List Dev} {x : Pl} : placeB ds x = true ↔ (0 ≤ x.1 ∧ x.1 < ds.length) ∧ 0 ≤ x.2 ∧ x.2 < portsF (kindAt ds x.1) := by
  simp [placeB]

def pjL (l : LinkV) (j : Nat) : Pl := if j = 0 then l.e1 else l.e2
theorem linksE_bad {ds : List Dev} {ls : List LinkV} {ends : List Pl} {k j : Nat} {l : LinkV} (h : ls[k]? = some l) (hj : j < 2) (h1 : ∀ i, i < j → placeB ds (pjL l i) = true) (h2 : placeB ds (pjL l j) = false) : linksE ds ends (ls.drop k) = 1 := by
  rw [linksE_step h]
  rcases (by omega : j = 0 ∨ j = 1) with rfl | rfl
  · rw [show pjL l 0 = l.e1 from rfl] at h2
    simp [h2]
  · have := h1 0 (by omega)
    rw [show pjL l 0 = l.e1 from rfl] at this
    rw [show pjL l 1 = l.e2 from rfl] at h2
    simp [h2, this]
theorem linksE_good {ds : List Dev} {ls : List LinkV} {ends : List Pl} {k : Nat} {l : LinkV} (h : ls[k]? = some l) (h1 : ∀ i, i < 2 → placeB ds (pjL l i) = true) :
    linksE ds ends (ls.drop k) = if takenB ends l then 5 else linksE ds (ends ++ [l.e1, l.e2]) (ls.drop (k + 1)) := by
  rw [linksE_step h]
  have a := h1 0 (by omega)
  have b := h1 1 (by omega)
  rw [show pjL l 0 = l.e1 from rfl] at a
  rw [show pjL l 1 = l.e2 from rfl] at b
  simp [a, b]

set_option maxRecDepth 100000 in
theorem checkClos_walk (x : DevV) (nm : ByteArray) (k : Nat) (w : World) (hk : k < w.heap.size) (h0 : w.cell? ⟨k, 0, none⟩ = some (.string nm)) :
    Calls Try.prog 116 (#[x.val] ++ #[.pointer (some ⟨k, 0, none⟩)]) w fun e W' => e = .returned (.bool (nameEq x.name nm)) ∧ Below w.heap.size w W' := by
  have hne : k ≠ w.heap.size := by omega
  obtain ⟨xn, xk, xa, xp, bA, bn, bc, bs, rA, rn, rc, rs, tA, tn, tc, ts⟩ := x
  show Calls Try.prog 116 #[.agg #[.string xn, .int .i64 xk, .int .i64 xa, .int .u8 xp, .slice bA bn bc, .slice rA rn rc, .slice tA tn tc], .pointer (some ⟨k, 0, none⟩)] w _
  have HB := hide (fun o => show Below w.heap.size w (w.alloc o) from (Below.refl _ _).alloc (Nat.le_refl _) _)
  by_cases e : xn.toList = nm.toList
  all_goals
    go_enter Try.func116, Try.ntmps116
    go_wp2
    go_ret
    exact ⟨ret_bool (by simp [nameEq, e]), HB.out _⟩
end Go.Proofs.Ythaiffjalgionaa
