/- The arena's inner calls: made. -/
import Derived.Test.YtidikopjfpioaaaBddPart
import Derived.Deep.RegionLaw
import Derived.StillTailTactics
set_option linter.unusedVariables false
set_option linter.unusedSimpArgs false
namespace Go.Proofs.Ytidikopjfpioaaa
open Go.RowKit Go.Maps Bdd

theorem zeroI (w : World) : (zeroValue 3).run Try.prog w = .ok (.int .i64 0) w := by kernel_rfl

/-- What 'made' leaves. -/
def MadePost (w : World) (B g nb kb ib : Nat) (A : St) (T : Tri → Option Value) (v lo hi : Nat) (e : Ending) (W' : World) : Prop :=
  ∃ (r nb' cap' : Nat) (A' : St) (K' : Tri → Option Value), e = .returned (.int .i64 (r : Int)) ∧ Made A v lo hi r A' ∧ ArenaAt W' B g nb' kb ib cap' A' K' T ∧ (nb' = nb ∨ w.heap.size ≤ nb') ∧ Frm (Fp g nb kb ib) w W'

theorem Try.infoNode : (Try.prog.info? 129).map (fun i => (i.zero, i.size, i.bytes)) = some (some (.agg #[.int .i64 0, .int .i64 0, .int .i64 0]), 3, 24) := by kernel_rfl
theorem node_lit (v lo hi : Nat) (W' : World) : Reads (W'.alloc (.cells #[.int .i64 v, .int .i64 lo, .int .i64 hi] 129)) (W'.heap.size + 1) 3 (some ⟨W'.heap.size, 0, none⟩) 1 (nodeCells ⟨v, lo, hi⟩) :=
  ⟨rfl, fun _ => ⟨_, rfl, Nat.lt_succ_self _, fun j u hu => by
    rw [addr_add, Nat.zero_add, cell_of_row _ _ _ _ _ _ (heap_alloc_new W' _)]
    simpa [nodeCells] using hu⟩⟩

/-- Behind the append and the store into the arena's block. -/
theorem made_fin {w W2 w5 : World} {B g nb kb ib cap nb5 c5 v lo hi : Nat} {A : St} {K T : Tri → Option Value} (h : ArenaAt w B g nb kb ib cap A K T) (hv : v < A.vars) (hlo : lo < A.ns.length) (hhi : hi < A.ns.length)
    (h1 : v < var A.ns lo) (h2 : v < var A.ns hi) (hne : lo ≠ hi) (hnot : ∀ i, 2 ≤ i → A.ns[i]? ≠ some ⟨v, lo, hi⟩) (hm : A.ns.length < A.most)
    (hW : RowKit.Below w.heap.size w W2) (hbox : W2.heap[w.heap.size]? = some (.cells #[.int .i64 v, .int .i64 lo, .int .i64 hi] 129 (0, 0))) (hown5 : w5.ownsRow B 129 3 (.slice (some ⟨nb5, 0, none⟩) (A.ns.length + 1) c5) (A.ns.length + 1) (A.ns.flatMap nodeCells ++ nodeCells ⟨v, lo, hi⟩))
    (hg5 : W2.grownBy w5 (some nb)) (hat : nb5 = nb ∨ W2.heap.size ≤ nb5) :
    (w5.cell? ⟨g, 2, none⟩ = some (.slice (some ⟨nb, 0, none⟩) A.ns.length cap) ∧ w5.frozen? ⟨g, 2, none⟩ = false) ∧
    Hid (∀ u, u = w5.setCell ⟨g, 2, none⟩ (.slice (some ⟨nb5, 0, none⟩) (A.ns.length + 1) c5) →
      u.cell? ⟨g, 3, none⟩ = some (.map (some kb)) ∧ (u.cell? ⟨w.heap.size, 0, none⟩ = some (.int .i64 v) ∧ u.cell? ⟨w.heap.size, 1, none⟩ = some (.int .i64 lo) ∧ u.cell? ⟨w.heap.size, 2, none⟩ = some (.int .i64 hi)) ∧
      MapIs Try.prog 129 triVal triDom u kb K ∧
      ∀ w7, MapIs Try.prog 129 triVal triDom w7 kb (putM K (v, lo, hi) (.int .i64 (A.ns.length : Nat))) → u.grownBy w7 (some kb) → MadePost w B g nb kb ib A T v lo hi (.returned (.int .i64 ((A.ns.length : Nat) : Int))) w7) := by
  obtain ⟨l1, l2, l3, l4, l5⟩ := h.lts
  obtain ⟨n1, n2, n3, n4, n5, n6⟩ := h.nes
  have hsz := hW.size
  have hb5 : ∀ k, k < w.heap.size → k ≠ nb → w5.heap[k]? = w.heap[k]? := fun k hk hn => (hg5.block k (by omega) (fun e => hn (Option.some.inj e))).trans (hW.block k hk)
  have hbx : w5.heap[w.heap.size]? = some (.cells #[.int .i64 v, .int .i64 lo, .int .i64 hi] 129 (0, 0)) := (hg5.block _ (by
    have := (Array.getElem?_eq_some_iff.1 hbox).1; exact this) (fun e => by have := Option.some.inj e; omega)).trans hbox
  have hgc : ∀ o, w5.cell? ⟨g, o, none⟩ = w.cell? ⟨g, o, none⟩ := fun o => World.cell?_of_block (a := ⟨g, o, none⟩) (hb5 g l1 n1)
  have hgf : ∀ o, w5.frozen? ⟨g, o, none⟩ = false := fun o => (World.frozen?_of_block (a := ⟨g, o, none⟩) (hb5 g l1 n1)).trans (h.fr o)
  refine ⟨⟨(hgc 2).trans h.c2, hgf 2⟩, ?_⟩
  intro u hu
  have hub : ∀ k, k ≠ g → u.heap[k]? = w5.heap[k]? := fun k hk => by rw [hu]; exact RowKit.Below.heap_setCell _ _ _ _ hk
  have huo : ∀ o, o ≠ 2 → u.cell? ⟨g, o, none⟩ = w.cell? ⟨g, o, none⟩ := fun o ho => by rw [hu, World.cell?_setCell_other w5 _ _ _ (fun e => by simp only [Addr.mk.injEq] at e; omega)]; exact hgc o
  have hbu : u.heap[w.heap.size]? = _ := (hub _ (by omega)).trans hbx
  have hku : MapIs Try.prog 129 triVal triDom u kb K := h.km.same ((hub kb (fun e => n2 e.symm)).trans (hb5 kb l3 (fun e => n4 e.symm)))
  refine ⟨(huo 3 (by omega)).trans h.c3, ⟨by rw [cell_of_row _ _ _ _ _ _ hbu]; rfl, by rw [cell_of_row _ _ _ _ _ _ hbu]; rfl, by rw [cell_of_row _ _ _ _ _ _ hbu]; rfl⟩, hku, ?_⟩
  intro w7 hk7 hg7
  have hlt5 := (hown5.lt nb5 rfl)
  have hn5g : nb5 ≠ g := by rcases hat with e | e <;> omega
  have hn5k : nb5 ≠ kb := by rcases hat with e | e <;> omega
  have hsu : w5.heap.size = u.heap.size := by rw [hu]; simp [World.setCell]
  have hs5 := hg5.size
  have h7 : ∀ k, k < u.heap.size → k ≠ kb → w7.heap[k]? = u.heap[k]? := fun k hk hn => hg7.block k hk (fun e => hn (Option.some.inj e))
  have h7c : ∀ o, w7.cell? ⟨g, o, none⟩ = u.cell? ⟨g, o, none⟩ := fun o => World.cell?_of_block (a := ⟨g, o, none⟩) (h7 g (by omega) n2)
  have hu2 : u.cell? ⟨g, 2, none⟩ = some (.slice (some ⟨nb5, 0, none⟩) (A.ns.length + 1) c5) := by rw [hu]; exact World.cell?_setCell_same w5 ⟨g, 2, none⟩ _ ((hgc 2).trans h.c2)
  have hmade : Made A v lo hi A.len { A with ns := A.ns ++ [⟨v, lo, hi⟩] } := .new hne hnot hm
  have hext := hmade.ext h.inv hv hlo hhi h1 h2
  have hflat : (A.ns ++ [(⟨v, lo, hi⟩ : Bdd.Node)]).flatMap nodeCells = A.ns.flatMap nodeCells ++ nodeCells ⟨v, lo, hi⟩ := by simp
  refine ⟨A.ns.length, nb5, c5, { A with ns := A.ns ++ [⟨v, lo, hi⟩] }, putM K (v, lo, hi) (.int .i64 (A.ns.length : Nat)), rfl, hmade, ?_, ?_, ?_⟩
  · have hlen : (A.ns ++ [(⟨v, lo, hi⟩ : Bdd.Node)]).length = A.ns.length + 1 := by simp
    refine ⟨(h7c 0).trans ((huo 0 (by omega)).trans h.c0), (h7c 1).trans ((huo 1 (by omega)).trans h.c1), ?_, (h7c 3).trans ((huo 3 (by omega)).trans h.c3), (h7c 4).trans ((huo 4 (by omega)).trans h.c4), (h7c 5).trans ((huo 5 (by omega)).trans h.c5), ?_, ?_, hk7, ?_, hext.inv, h.vs, h.ms, ?_, ?_, ⟨fun e => hn5g e.symm, n6⟩, h.lo⟩
    · show w7.cell? ⟨g, 2, none⟩ = some (.slice _ (A.ns ++ [(⟨v, lo, hi⟩ : Bdd.Node)]).length c5)
      rw [hlen]; exact (h7c 2).trans hu2
    · intro o
      rw [World.frozen?_of_block (a := ⟨g, o, none⟩) (h7 g (by omega) n2), hu, World.frozen?_setCell]
      exact hgf o
    · show w7.ownsRow B _ 3 (.slice _ (A.ns ++ [(⟨v, lo, hi⟩ : Bdd.Node)]).length c5) (A.ns ++ [(⟨v, lo, hi⟩ : Bdd.Node)]).length ((A.ns ++ [(⟨v, lo, hi⟩ : Bdd.Node)]).flatMap nodeCells)
      rw [hlen, hflat]
      have := own_setCell hown5 (p := ⟨g, 2, none⟩) (fun k hk => by simp [Value.ownBlock] at hk; subst hk; exact hn5g) (.slice (some ⟨nb5, 0, none⟩) (A.ns.length + 1) c5)
      rw [← hu] at this
      exact this.kept hg7 (.inr (fun e => by simp [Value.ownBlock] at e; exact hn5k e))
    · exact h.im.same ((h7 ib (by omega) (fun e => n6 e.symm)).trans ((hub ib (fun e => n3 e.symm)).trans (hb5 ib l4 (fun e => n5 e.symm))))
    · intro v' lo' hi' x
      show putM K (v, lo, hi) _ (v', lo', hi') = some x ↔ ∃ i : Nat, 2 ≤ i ∧ (A.ns ++ [(⟨v, lo, hi⟩ : Bdd.Node)])[i]? = some ⟨v', lo', hi'⟩ ∧ x = .int .i64 (i : Int)
      by_cases e : (v', lo', hi') = (v, lo, hi)
      · rw [e, putM_same]
        cases e
        constructor
        · intro hx
          cases hx
          exact ⟨A.ns.length, h.inv.ok.two, by simp, rfl⟩
        · rintro ⟨i, hi2, hin, rfl⟩
          rcases Nat.lt_or_ge i A.ns.length with hl | hl
          · rw [List.getElem?_append_left hl] at hin; exact absurd hin (hnot i hi2)
          · have := (List.getElem?_eq_some_iff.1 hin).1
            have : i = A.ns.length := by simp at this; omega
            rw [this]
      · rw [putM_other _ _ e, h.kok v' lo' hi' x]
        constructor
        · rintro ⟨i, hi2, hin, rfl⟩
          exact ⟨i, hi2, by rw [List.getElem?_append_left (List.getElem?_eq_some_iff.1 hin).1]; exact hin, rfl⟩
        · rintro ⟨i, hi2, hin, rfl⟩
          rcases Nat.lt_or_ge i A.ns.length with hl | hl
          · rw [List.getElem?_append_left hl] at hin; exact ⟨i, hi2, hin, rfl⟩
          · have hi' := (List.getElem?_eq_some_iff.1 hin).1
            have : i = A.ns.length := by simp at hi'; omega
            subst this
            simp at hin
            exact absurd (by simp [hin]) e
    · intro f' g' h' x hx
      obtain ⟨r, rfl, a1, a2, a3, a4, a5⟩ := h.iok f' g' h' x hx
      refine ⟨r, rfl, by simp; omega, by simp; omega, by simp; omega, by simp; omega, ?_⟩
      show den (A.ns ++ _) r = iteF (den (A.ns ++ _) f') (den (A.ns ++ _) g') (den (A.ns ++ _) h')
      rw [den_append h.inv.ok _ a1, den_append h.inv.ok _ a2, den_append h.inv.ok _ a3, den_append h.inv.ok _ a4, a5]
  · rcases hat with e | e
    · exact .inl e
    · exact .inr (by omega)
  · refine ⟨?_, ?_, ?_, ?_, ?_⟩
    · rw [hg7.os, hu]; exact hg5.os.trans hW.os
    · rw [hg7.tape, hu]; exact hg5.tape.trans hW.tape
    · rw [hg7.output, hu]; exact hg5.output.trans hW.output
    · have := hg7.size; omega
    · intro k hk hn
      have k1 : k ≠ g := fun e => hn (.inl e)
      have k2 : k ≠ nb := fun e => hn (.inr (.inl e))
      have k3 : k ≠ kb := fun e => hn (.inr (.inr (.inl e)))
      exact (h7 k (by omega) k3).trans ((hub k k1).trans (hb5 k hk k2))

set_option maxRecDepth 100000 in
set_option maxHeartbeats 4000000 in
theorem made_walk {w : World} {B g nb kb ib cap : Nat} {A : St} {K T : Tri → Option Value} (h : ArenaAt w B g nb kb ib cap A K T) (v lo hi : Nat) (hv : v < A.vars) (hlo : lo < A.ns.length) (hhi : hi < A.ns.length)
    (h1 : v < var A.ns lo) (h2 : v < var A.ns hi) :
    Calls Try.prog 126 #[.pointer (some ⟨g, 0, none⟩), .int .i64 v, .int .i64 lo, .int .i64 hi] w (MadePost w B g nb kb ib A T v lo hi) := by
  obtain ⟨i0, hi0, hz0, hz1, hz2⟩ := info_parts Try.infoNode
  have hlen := h.lenle
  have hvs := h.vs
  obtain ⟨l1, l2, l3, l4, l5⟩ := h.lts
  by_cases e0 : lo = hi
  · subst e0
    have HF : Hid (MadePost w B g nb kb ib A T v lo lo (.returned (.int .i64 (lo : Int))) w) := hide ⟨lo, nb, cap, A, K, rfl, .same rfl, h, .inl rfl, Frm.refl _ _⟩
    clear h
    go_enter Try.func126, Try.ntmps126
    go_wp2
    go_ret
    exact HF.out
  have e0' : ((lo : Int) == (hi : Int)) = false := by simp; omega
  have hdom : triDom (v, lo, hi) := ⟨by show v < _; omega, by show lo < _; omega, by show hi < _; omega⟩
  have hb0 : ∀ o, RowKit.Below w.heap.size w (w.alloc o) := fun o => (RowKit.Below.refl _ _).alloc (Nat.le_refl _) _
  have hb0n : ∀ o n, RowKit.Below w.heap.size w ((w.alloc o).drewN n) := fun o n => (hb0 o).trans ⟨rfl, rfl, rfl, Nat.le_refl _, fun _ _ => rfl⟩
  have c1 := fun ob => (hb0 ob).cell (p := ⟨g, 1, none⟩) l1 |>.trans h.c1
  have c2 := fun ob => (hb0 ob).cell (p := ⟨g, 2, none⟩) l1 |>.trans h.c2
  have c3 := fun ob => (hb0 ob).cell (p := ⟨g, 3, none⟩) l1 |>.trans h.c3
  have c5 := fun ob => (hb0 ob).cell (p := ⟨g, 5, none⟩) l1 |>.trans h.c5
  have f5 := fun ob => ((hb0 ob).frozen (p := ⟨g, 5, none⟩) l1).trans (h.fr 5)
  have hkm := fun (n : Nat) (ob : Obj) => ((h.below (hb0n ob n)).km.look nodeKeys Try.underlying131 (zeroI _) hdom).1
  cases ek : K (v, lo, hi) with
  | some x =>
    obtain ⟨i, hi2, hin, rfl⟩ := (h.kok v lo hi x).1 ek
    have hlk : ∀ n ob, (Instr.lookup 131 (.map (some kb)) (.agg #[.int .i64 v, .int .i64 lo, .int .i64 hi]) true).run Try.prog ((w.alloc ob).drewN n) = .ok (.tuple #[.int .i64 i, .bool true]) ((w.alloc ob).drewN n) := fun n ob => by
      have := hkm n ob
      rw [ek] at this
      exact this
    have HF : Hid (∀ ob n, MadePost w B g nb kb ib A T v lo hi (.returned (.int .i64 (i : Int))) ((w.alloc ob).drewN n)) := hide fun ob n => ⟨i, nb, cap, A, K, rfl, .there i e0 hi2 hin, h.below (hb0n ob n), .inl rfl, Frm.of_below (hb0n ob n)⟩
    clear h hkm ek hb0 hb0n
    go_enter Try.func126, Try.ntmps126
    go_wp2
    go_quiet (fail)
    go_wp2
    go_ret
    exact HF.out _ _
  | none =>
    have hlk : ∀ n ob, (Instr.lookup 131 (.map (some kb)) (.agg #[.int .i64 v, .int .i64 lo, .int .i64 hi]) true).run Try.prog ((w.alloc ob).drewN n) = .ok (.tuple #[.int .i64 0, .bool false]) ((w.alloc ob).drewN n) := fun n ob => by
      have := hkm n ob
      rw [ek] at this
      exact this
    have hnot : ∀ i, 2 ≤ i → A.ns[i]? ≠ some ⟨v, lo, hi⟩ := fun i hi2 hn => by
      have := (h.kok v lo hi _).2 ⟨i, hi2, hn, rfl⟩
      rw [ek] at this
      cases this
    by_cases hm : A.most ≤ A.ns.length
    · have hm' : decide ((A.most : Int) ≤ (A.ns.length : Int)) = true := by simp; omega
      have HF : Hid (∀ ob n, MadePost w B g nb kb ib A T v lo hi (.returned (.int .i64 ((0 : Nat) : Int))) (((w.alloc ob).drewN n).setCell ⟨g, 5, none⟩ (.bool true))) := hide fun ob n =>
        ⟨0, nb, cap, { A with full := true }, K, rfl, .full e0 hnot hm, (h.below (hb0n ob n)).setFull true ⟨h.inv.ok, h.inv.bound, fun _ => Nat.le_antisymm h.inv.bound hm⟩, .inl rfl,
          (Frm.of_below (hb0n ob n)).trans (S' := Fp g nb kb ib) (Frm.setCell (p := ⟨g, 5, none⟩) (.inl rfl) _) (fun _ _ h => h)⟩
      clear h hkm ek hb0 hb0n
      go_enter Try.func126, Try.ntmps126
      go_wp2
      go_quiet (fail)
      go_wp2
      go_quiet (fail)
      go_wp2
      go_ret
      exact HF.out _ _
    · have hm' : decide ((A.most : Int) ≤ (A.ns.length : Int)) = false := by simp; omega
      go_enter Try.func126, Try.ntmps126
      go_wp2
      go_quiet (fail)
      go_wp2
      go_quiet (fail)
      go_wp2
      have HLIT : Hid (∀ (W' : World) (k : Nat), W'.heap.size = k → Reads (W'.alloc (.cells #[.int .i64 v, .int .i64 lo, .int .i64 hi] 129)) (k + 1) 3 (some ⟨k, 0, none⟩) 1 (nodeCells ⟨v, lo, hi⟩)) := hide (fun W' k hk => hk ▸ node_lit v lo hi W')
      have c2' : ∀ ob n ob2, (((w.alloc ob).drewN n).alloc ob2).cell? ⟨g, 2, none⟩ = _ := fun ob n ob2 => ((hb0n ob n).cell (p := ⟨g, 2, none⟩) l1 ▸ (World.cell?_alloc_lt ((w.alloc ob).drewN n) ob2 ⟨g, 2, none⟩ (by have := (hb0n ob n).size; show g < _; omega))).trans h.c2
      have H := hide h
      have HM := hide (fun W2 w5 nb5 c5 => made_fin (W2 := W2) (w5 := w5) (nb5 := nb5) (c5 := c5) h hv hlo hhi h1 h2 e0 hnot (Nat.lt_of_not_le hm))
      have hsz0 : ∀ ob, w.heap.size < (w.alloc ob).heap.size := fun ob => by simp
      have HBX : Hid (∀ n ob2, RowKit.Below w.heap.size w (((w.alloc (.cells #[.int .i64 v, .int .i64 lo, .int .i64 hi] 129)).drewN n).alloc ob2) ∧ (((w.alloc (.cells #[.int .i64 v, .int .i64 lo, .int .i64 hi] 129)).drewN n).alloc ob2).heap[w.heap.size]? = some (.cells #[.int .i64 v, .int .i64 lo, .int .i64 hi] 129 (0, 0))) := hide (fun n ob2 =>
        ⟨(hb0n _ n).alloc (hb0n _ n).size ob2, (RowKit.Below.heap_alloc _ ob2 _ (hsz0 _)).trans (heap_alloc_new w _)⟩)
      clear h hkm ek hlk
      go_region_law ((refine step_append_any _ rfl (.tmp 54) (.tmp 56) 130 rfl B 129 i0 _ 3 24 Try.underlying130 hi0 hz0 hz1 hz2 rfl (by omega) (.slice (some ⟨nb, 0, none⟩) A.ns.length cap) A.ns.length (A.ns.flatMap nodeCells) rfl ((H.out.below (hb0n _ _)).own.alloc _) _ (some ⟨_, 0, none⟩) 1 1 _ rfl (HLIT.out _ _ (by simp)) (nodeCells_one _) (by simp only [maxLen]; omega) (by omega) (by simp; omega) ?_; intro v5 w5 hown5 hg5 hat5; obtain ⟨nb5, c5, hv5, _⟩ := hown5.form (by omega); rw [hv5]; rw [hv5] at hown5 hat5; have HM5 := HM.out _ _ _ _ (HBX.out _ _).1 (HBX.out _ _).2 hown5 hg5 (by have hat6 := hat5; simp [Value.ownBlock] at hat6 ⊢; omega); have k2 := HM5.1.1; have f2 := HM5.1.2; have HU := HM5.2; clear HM5))
      all_goals
        obtain ⟨d3, ⟨x0, x1, x2⟩, hku, HU'⟩ := HU.out _ rfl
        have HUU := hide HU'
        have HKU := hide hku
        clear HU' hku HU k2 f2
        generalize World.setCell _ _ _ = u at *
        go_wp2
        go_still_tail 6, (by kernel_rfl)
        refine wpList_storeM _ rfl (.tmp 63) (.tmp 64) (.tmp 65) 131 rfl 3 nodeKeys Try.underlying131 rfl (HKU.out.same (w' := u.drew) rfl) (v, lo, hi) hdom rfl (.int .i64 (A.ns.length : Nat)) rfl ?_
        intro w7 hk7 hg7
        have HE := hide (HUU.out w7 hk7 ⟨hg7.os, hg7.tape, hg7.output, hg7.size, hg7.block⟩)
        clear hk7 hg7
        go_wp2
        go_ret
        exact HE.out
end Go.Proofs.Ytidikopjfpioaaa
