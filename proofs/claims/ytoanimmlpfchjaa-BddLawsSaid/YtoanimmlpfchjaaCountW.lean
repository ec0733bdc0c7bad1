/- The arena's count, Count, Size: the walks. -/
import Derived.Test.YtoanimmlpfchjaaCount
import Derived.IntWalk
set_option linter.unusedVariables false
set_option linter.unusedSimpArgs false
namespace Go.Proofs.Ytoanimmlpfchjaa
open Go.RowKit Go.Maps Bdd

theorem pow_le16 {m : Nat} (h : m ≤ 16) : 2 ^ m ≤ 65536 := (Nat.pow_le_pow_right (by omega) h : 2 ^ m ≤ 2 ^ 16)

set_option maxRecDepth 100000 in
set_option maxHeartbeats 8000000 in
theorem count_walk (m : Nat) : ∀ (w : World) (B g nb kb ib sb cap : Nat) (A : St) (K T : Tri → Option Value) (S : Nat → Option Value) (h : ArenaAt w B g nb kb ib cap A K T) (hs : MapIs Try.prog 3 numVal numDom w sb S) (hk : SeenC A S) (hsb : ¬ Fp g nb kb ib sb) (f v : Nat) (hf : f < A.ns.length) (hv : v ≤ var A.ns f) (hm : f < m),
    Calls Try.prog 92 #[.pointer (some ⟨g, 0, none⟩), .int .i64 f, .int .i64 v, .map (some sb)] w (CntP w sb A (cntF A.vars (A.vars - v) (den A.ns f))) := by
  induction m with
  | zero => intro w B g nb kb ib sb cap A K T S h hs hk hsb f v hf hv hm; omega
  | succ m ih =>
    intro w B g nb kb ib sb cap A K T S h hs hk hsb f v hf hv hm
    have IH := hide ih
    clear ih
    have ok := h.inv.ok
    have hlen := h.lenle
    have hvs := h.vs
    obtain ⟨l1, l2, l3, l4, l5⟩ := h.lts
    have ls := hs.lt
    obtain ⟨n, hn⟩ := get_of_lt hf
    have hvf : var A.ns f = n.v := var_some hn
    have hvle := var_le ok hf
    have c2 := h.c2
    have c0 := h.c0
    obtain ⟨d0, d1, d2⟩ := h.node hn
    have hb0 : RowKit.Below w.heap.size w (w.alloc (.cells #[.int .i64 n.v, .int .i64 n.lo, .int .i64 n.hi] 126)) := (RowKit.Below.refl _ _).alloc (Nat.le_refl _) _
    have HW1 := hide (CS.below (CS.mk hs hk (Frm.refl _ _)) hb0)
    have HB0 := hide hb0
    by_cases e0 : f = 0
    · subst e0
      have HF := hide (show CntP w sb A (cntF A.vars (A.vars - v) (den A.ns 0)) (.returned (.int .i64 0)) (w.alloc (.cells #[.int .i64 n.v, .int .i64 n.lo, .int .i64 n.hi] 126)) from
        ⟨by rw [den_zero, cntF_false]; rfl, S, HW1.out⟩)
      clear h hs hk hsb ok hvf
      go_enter Try.func92, Try.ntmps92
      go_wp2
      go_ret
      exact HF.out
    have e0' : ((f : Int) == 0) = false := by simp; omega
    by_cases e1 : f = 1
    · subst e1
      have c0' : ∀ ob, (w.alloc ob).cell? ⟨g, 0, none⟩ = some (.int .i64 A.vars) := fun ob => (World.cell?_alloc_lt _ _ _ (by show g < _; omega)).trans c0
      have hvv : v ≤ A.vars := by rw [var_one ok] at hv; exact hv
      have htn : ((A.vars : Int) - (v : Int)).toNat = A.vars - v := by omega
      have HF := hide (show CntP w sb A (cntF A.vars (A.vars - v) (den A.ns 1)) (.returned (.int .i64 (wrap64 (2 ^ (A.vars - v))))) (w.alloc (.cells #[.int .i64 n.v, .int .i64 n.lo, .int .i64 n.hi] 126)) from
        ⟨by rw [den_one, cntF_true, wrap_pow _ (by omega)]; simp, S, HW1.out⟩)
      clear h hs hk hsb ok hvf
      go_enter Try.func92, Try.ntmps92
      go_wp2
      go_ret
      exact HF.out
    have e1' : ((f : Int) == 1) = false := by simp; omega
    have hf2 : 2 ≤ f := by omega
    obtain ⟨hnv, hl, hh, hne, g1, g2⟩ := ok.node f n hn hf2
    have HC := hide (cntF_node ok hf hn hf2)
    have hcle := cntF_le A.vars (A.vars - n.v) (den A.ns f)
    have hpw := pow_le16 (m := A.vars - n.v) (by omega)
    have hpw2 := pow_le16 (m := A.vars - v) (by omega)
    have hcv := cntF_le A.vars (A.vars - v) (den A.ns f)
    have HWD := hide (show cntF A.vars (A.vars - v) (den A.ns f) = cntF A.vars (A.vars - n.v) (den A.ns f) * 2 ^ (n.v - v) from by
      have := cntF_widen' (vars := A.vars) (k := n.v) (F := den A.ns f) (den_below ok f hf) (fun x y hxy => indep ok f hf x y (fun u hu => hxy u (by omega))) (by omega) (n.v - v) (by omega)
      rw [show A.vars - n.v + (n.v - v) = A.vars - v by omega] at this
      exact this)
    have HSH := hide (shl_nat (cntF A.vars (A.vars - n.v) (den A.ns f)) (n.v - v) (by rw [← HWD.out]; omega))
    have htn : ((n.v : Int) - (v : Int)).toNat = n.v - v := by omega
    have hnvv : v ≤ n.v := by omega
    have hdom : numDom f := by show f < _; omega
    have him := fun (ob : Obj) => ((hs.same (w' := w.alloc ob) (RowKit.Below.heap_alloc _ _ _ ls)).look numKeys Try.underlying144 (zeroI2 _) hdom).1
    cases ek : S f with
    | some x =>
      obtain ⟨_, _, rfl⟩ := hk f x ek
      rw [hvf] at ek
      have hlk : ∀ ob, (Instr.lookup 144 (.map (some sb)) (.int .i64 f) true).run Try.prog (w.alloc ob) = .ok (.tuple #[.int .i64 (cntF A.vars (A.vars - n.v) (den A.ns f) : Nat), .bool true]) (w.alloc ob) := fun ob => by
        have := him ob
        rw [ek] at this
        exact this
      have HF := hide (show CntP w sb A (cntF A.vars (A.vars - v) (den A.ns f)) (.returned (.int .i64 (wrap64 ((cntF A.vars (A.vars - n.v) (den A.ns f) : Nat) * 2 ^ (n.v - v))))) (w.alloc (.cells #[.int .i64 n.v, .int .i64 n.lo, .int .i64 n.hi] 126)) from
        ⟨by rw [HSH.out, HWD.out], S, HW1.out⟩)
      clear h hs hk hsb ok hvf him ek
      generalize cntF A.vars (A.vars - n.v) (den A.ns f) = cc at *
      go_enter Try.func92, Try.ntmps92
      go_wp2
      go_ret
      exact HF.out
    | none =>
      have hlk : ∀ ob, (Instr.lookup 144 (.map (some sb)) (.int .i64 f) true).run Try.prog (w.alloc ob) = .ok (.tuple #[.int .i64 0, .bool false]) (w.alloc ob) := fun ob => by
        have := him ob
        rw [ek] at this
        exact this
      obtain ⟨nv, nlo, nhi⟩ := n
      simp only at *
      generalize ha : cntF A.vars (A.vars - (nv + 1)) (den A.ns nlo) = ca at *
      generalize hb : cntF A.vars (A.vars - (nv + 1)) (den A.ns nhi) = cb at *
      have hab : ca + cb ≤ 65536 := by rw [← HC.out]; omega
      have hbx := heap_alloc_new w (.cells #[.int .i64 nv, .int .i64 nlo, .int .i64 nhi] 126)
      have hszN : w.heap.size < (w.alloc (.cells #[.int .i64 nv, .int .i64 nlo, .int .i64 nhi] 126)).heap.size := by simp
      have HBX := hide (And.intro hbx (And.intro (show w.heap.size ≠ sb by omega) hszN))
      have HAR := hide (h.below hb0)
      have HFM := hide (And.intro hf (And.intro hf2 (And.intro hm (And.intro hdom hsb))))
      have HCAB := hide (And.intro ha hb)
      have HVF := hide hvf
      have HNV := hide (And.intro g1 g2)
      have hl' : nlo < f := hl
      have hh' : nhi < f := hh
      clear h hs hk hsb ok hvf him ek hbx hm hdom hn ha hb hb0 hcle hpw hpw2 hcv g1 g2 hl hh
      go_enter Try.func92, Try.ntmps92
      go_wp2
      clear c2 c0 d0 d1 d2 hlk e0 e1 e0' e1'
      generalize hw0 : w.alloc _ = w0 at *
      obtain ⟨N, hN⟩ : ∃ N, w.heap.size = N := ⟨_, rfl⟩
      rw [hN] at HBX hszN ⊢
      clear hN hw0
      have x0 : w0.cell? ⟨N, 0, none⟩ = some (.int .i64 nv) := by rw [cell_of_row _ _ _ _ _ _ HBX.out.1]; rfl
      have x1 : w0.cell? ⟨N, 1, none⟩ = some (.int .i64 nlo) := by rw [cell_of_row _ _ _ _ _ _ HBX.out.1]; rfl
      have x2 : w0.cell? ⟨N, 2, none⟩ = some (.int .i64 nhi) := by rw [cell_of_row _ _ _ _ _ _ HBX.out.1]; rfl
      have HWA : Hid (CS w0 sb A w0 S) := hide ⟨HW1.out.sm, HW1.out.sk, Frm.refl _ _⟩
      have hc1 : ((nv + 1 : Nat) : Int) = (nv : Int) + 1 := by omega
      have HIN := hide (fun (x : Nat) (c : Nat) (hx : x < f) (hxv : nv + 1 ≤ var A.ns x) (hcc : cntF A.vars (A.vars - (nv + 1)) (den A.ns x) = c) (wa : World) (S1 : Nat → Option Value) (hcs : CS w0 sb A wa S1) =>
        show Calls Try.prog 92 #[.pointer (some ⟨g, 0, none⟩), .int .i64 x, .int .i64 ((nv : Int) + 1), .map (some sb)] wa (fun e w2 => e = .returned (.int .i64 (c : Int)) ∧ ∃ S', CS w0 sb A w2 S') from
        hcc ▸ hc1 ▸ (IH.out wa B g nb kb ib sb cap A K T S1 (hcs.arena HAR.out HFM.out.2.2.2.2) hcs.sm hcs.sk HFM.out.2.2.2.2 x (nv + 1) (by have := HFM.out.1; omega) hxv (by have := HFM.out.2.2.1; omega)).mono (fun e w2 ⟨he, S', hS⟩ => ⟨he, S', hcs.trans hS⟩))
      have HKEEP := hide (fun (w1 : World) S1 (hws : CS w0 sb A w1 S1) => show w1.cell? ⟨N, 0, none⟩ = some (.int .i64 nv) ∧ w1.cell? ⟨N, 1, none⟩ = some (.int .i64 nlo) ∧ w1.cell? ⟨N, 2, none⟩ = some (.int .i64 nhi) from by
        have e := (hws.fm.block N HBX.out.2.2 HBX.out.2.1).trans HBX.out.1
        exact ⟨by rw [cell_of_row _ _ _ _ _ _ e]; rfl, by rw [cell_of_row _ _ _ _ _ _ e]; rfl, by rw [cell_of_row _ _ _ _ _ _ e]; rfl⟩)
      have HLO := hide (HIN.out nlo ca hl' HNV.out.1 HCAB.out.1)
      have HHI := hide (HIN.out nhi cb hh' HNV.out.2 HCAB.out.2)
      clear hc1
      have s1 : IntKind.i64.wrap ((nv : Int) + 1) = (nv : Int) + 1 := IntWalk.i64_in _ (by omega)
      have s2 : IntKind.i64.wrap ((ca : Int) + (cb : Int)) = (ca : Int) + (cb : Int) := IntWalk.i64_in _ (by omega)
      go_region_held3 (fun w' => w'.cell? ⟨N, 0, none⟩ = some (.int .i64 nv) ∧ w'.cell? ⟨N, 1, none⟩ = some (.int .i64 nlo) ∧ w'.cell? ⟨N, 2, none⟩ = some (.int .i64 nhi)) (go_keep)
        (first
          | (go_at_call_of 92 (Value.int IntKind.i64 (nlo : Int)); refine (HLO.out _ S (by exact HWA.out.below ⟨rfl, rfl, rfl, Nat.le_refl _, fun _ _ => rfl⟩)).mono ?_; rintro e wa ⟨rfl, S1, hcs1⟩; have HS1 := hide hcs1; clear hcs1 x0 x1 x2; obtain ⟨x0, x1, x2⟩ := HKEEP.out _ _ HS1.out)
          | (go_at_call_of 92 (Value.int IntKind.i64 (nhi : Int)); refine (HHI.out _ S1 (by exact HS1.out.below ⟨rfl, rfl, rfl, Nat.le_refl _, fun _ _ => rfl⟩)).mono ?_; rintro e wb ⟨rfl, S2, hcs2⟩; have HS2 := hide hcs2; clear hcs2 x0 x1 x2; obtain ⟨x0, x1, x2⟩ := HKEEP.out _ _ HS2.out))
      all_goals
        clear x0 x1 x2 s1 s2
        have HVV := hide (show Value.int .i64 ((cntF A.vars (A.vars - var A.ns f) (den A.ns f) : Nat) : Int) = .int .i64 ((ca : Int) + (cb : Int)) from by rw [HVF.out, HC.out]; simp)
        go_wp2_with (at_mapUpdate; refine wpList_storeM _ rfl (.tmp 55) (.tmp 56) (.tmp 57) 144 rfl 3 numKeys Try.underlying144 rfl (HS2.out.sm.same (w' := _) rfl) f HFM.out.2.2.2.1 rfl (.int .i64 ((ca : Int) + (cb : Int))) rfl ?_; intro w7 hk7 hg7; have HS7 := hide (HS2.out.store HFM.out.2.1 HFM.out.1 (HVV.out.symm ▸ hk7) ⟨hg7.os, hg7.tape, hg7.output, hg7.size, hg7.block⟩); clear hk7 hg7; obtain ⟨x0, x1, x2⟩ := HKEEP.out _ _ HS7.out)
        have HE := hide (show CntP w sb A (cntF A.vars (A.vars - v) (den A.ns f)) (.returned (.int .i64 (wrap64 (((ca : Int) + (cb : Int)) * 2 ^ (nv - v))))) w7 from
          ⟨by rw [HWD.out, ← HSH.out, HC.out]; simp, _, HS7.out.base HB0.out⟩)
        go_ret
        exact HE.out

set_option maxRecDepth 100000 in
set_option maxHeartbeats 4000000 in
theorem opCount_walk {w : World} {B g nb kb ib cap : Nat} {A : St} {K T : Tri → Option Value} (h : ArenaAt w B g nb kb ib cap A K T) (f : Nat) (hf : f < A.ns.length) :
    Calls Try.prog 42 #[.pointer (some ⟨g, 0, none⟩), .int .i64 f] w fun e W' => e = .returned (.tuple #[.int .i64 (cntF A.vars A.vars (den A.ns f) : Nat), .int .i64 0]) ∧ RowKit.Below w.heap.size w W' := by
  have hlen := h.lenle
  obtain ⟨l1, l2, l3, l4, l5⟩ := h.lts
  have hb0 : RowKit.Below w.heap.size w (w.alloc (.cells #[.int .i64 f] 3)) := (RowKit.Below.refl _ _).alloc (Nat.le_refl _) _
  have HA0 := hide (h.below hb0)
  have HI := hide (ints1 w (w.alloc (.cells #[.int .i64 f] 3)).heap.size (by simp) f (by omega) 3 (heap_alloc_new w _))
  have HOK := hide (show AskOk A [(f : Int)] [] from ⟨fun x hx => by
    simp only [List.mem_cons, List.mem_nil_iff, or_false] at hx
    rw [hx]; omega, fun x hx => (by cases hx)⟩)
  have HB0 := hide hb0
  have HC := hide (fun (w1 : World) (hb : RowKit.Below w.heap.size w w1) => by
    have hs := hb.size
    have hb1 : RowKit.Below w1.heap.size w1 (w1.alloc (.map #[] 0)) := (RowKit.Below.refl _ _).alloc (Nat.le_refl _) _
    have hsb : ¬ Fp g nb kb ib w1.heap.size := fun hS => by rcases hS with e | e | e | e <;> omega
    exact (count_walk (f + 1) (w1.alloc (.map #[] 0)) B g nb kb ib w1.heap.size cap A K T (fun _ => none) ((h.below hb).below hb1) (MapIs.made w1) (fun f x hx => by cases hx) hsb f 0 hf (Nat.zero_le _) (Nat.lt_succ_self _)))
  have hmm := @run_makeMap Try.prog
  clear h hf hb0
  go_enter Try.func42, Try.ntmps42
  go_wp2_with fail
  refine (ask_walk HA0.out [(f : Int)] [] _ none 1 0 1 0 (by omega) (by omega) HI.out (IntsAt.nil _ _ _)).mono ?_
  rintro e wa ⟨he, _, hb⟩
  obtain rfl := he HOK.out
  have HB := hide (HB0.out.trans (hb.mono HB0.out.size))
  have hsa := HB.out.size
  clear he hb HI HA0
  go_wp2_with fail
  refine (HC.out _ HB.out).mono ?_
  rintro e wb ⟨rfl, S', hS⟩
  have HF := hide (HB.out.trans (((RowKit.Below.refl _ wa).alloc (Nat.le_refl _) (.map #[] 0)).trans (hS.fm.below (B := wa.heap.size) (by simp) (fun i hi => by omega)) |>.mono hsa))
  clear hS
  go_wp2
  go_ret2
  exact ⟨rfl, HF.out⟩

set_option maxRecDepth 100000 in
theorem opSize_walk {w : World} {B g nb kb ib cap : Nat} {A : St} {K T : Tri → Option Value} (h : ArenaAt w B g nb kb ib cap A K T) :
    Calls Try.prog 39 #[.pointer (some ⟨g, 0, none⟩)] w fun e W' => e = .returned (.int .i64 (A.ns.length : Nat)) ∧ w = W' := by
  have c2 := h.c2
  clear h
  generalize A.ns.length = L at *
  go_enter Try.func39, Try.ntmps39
  go_wp2
  go_ret
  exact ⟨rfl, rfl⟩
end Go.Proofs.Ytoanimmlpfchjaa
