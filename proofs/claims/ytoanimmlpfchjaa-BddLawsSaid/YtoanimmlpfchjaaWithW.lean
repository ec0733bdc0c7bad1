/- with, put: the walks. -/
import Derived.Test.YtoanimmlpfchjaaWith
set_option linter.unusedVariables false
set_option linter.unusedSimpArgs false
namespace Go.Proofs.Ytoanimmlpfchjaa
open Go.RowKit Go.Maps Bdd

theorem zeroI2 (w : World) : (zeroValue 3).run Try.prog w = .ok (.int .i64 0) w := by kernel_rfl

set_option maxRecDepth 100000 in
set_option maxHeartbeats 8000000 in
theorem with_walk (i : Nat) (b : Bool) (m : Nat) : ∀ (w : World) (B g nb kb ib sb cap : Nat) (A : St) (K T : Tri → Option Value) (S : Nat → Option Value) (h : ArenaAt w B g nb kb ib cap A K T) (hs : MapIs Try.prog 3 numVal numDom w sb S) (hk : SeenOk A S i b) (hsb : ¬ Fp g nb kb ib sb) (f : Nat) (hf : f < A.ns.length) (hi : i < A.vars) (hm : f < m),
    Calls Try.prog 118 #[.pointer (some ⟨g, 0, none⟩), .int .i64 f, .int .i64 i, .bool b, .map (some sb)] w (WithP w B g nb kb ib sb A T i b (restr (den A.ns f) i b) (var A.ns f)) := by
  induction m with
  | zero => intro w B g nb kb ib sb cap A K T S h hs hk hsb f hf hi hm; omega
  | succ m ih =>
    intro w B g nb kb ib sb cap A K T S h hs hk hsb f hf hi hm
    have IH := hide ih
    clear ih
    have ok := h.inv.ok
    have hlen := h.lenle
    have hvs := h.vs
    obtain ⟨l1, l2, l3, l4, l5⟩ := h.lts
    have ls := hs.lt
    obtain ⟨n, hn⟩ := get_of_lt hf
    have hvf : var A.ns f = n.v := var_some hn
    have hvle := var_le ok hf
    have c2 := h.c2
    have c5 := h.c5
    obtain ⟨d0, d1, d2⟩ := h.node hn
    have hb0 : RowKit.Below w.heap.size w (w.alloc (.cells #[.int .i64 n.v, .int .i64 n.lo, .int .i64 n.hi] 126)) := (RowKit.Below.refl _ _).alloc (Nat.le_refl _) _
    have HW0 := hide (WS.start h hs hk)
    have HW1 := hide ((WS.start h hs hk).below hb0)
    have HB0 := hide hb0
    have HLT := hide (And.intro l2 (And.intro ls hsb))
    rw [hvf]
    have HVF := hide hvf
    have HH := hide h
    cases hfull : A.full
    case true =>
      rw [hfull] at c5
      have HF := hide (show WithP w B g nb kb ib sb A T i b (restr (den A.ns f) i b) n.v (.returned (.int .i64 ((0 : Nat) : Int))) (w.alloc (.cells #[.int .i64 n.v, .int .i64 n.lo, .int .i64 n.hi] 126)) from
        ⟨0, nb, cap, A, K, S, rfl, res_full h.inv hfull (by omega), HW1.out⟩)
      clear h hs hk hsb ok hvf
      go_enter Try.func118, Try.ntmps118
      go_wp2
      go_ret
      exact HF.out
    rw [hfull] at c5
    have c5' : ∀ ob, (w.alloc ob).cell? ⟨g, 5, none⟩ = some (.bool false) := fun ob => (World.cell?_alloc_lt _ _ _ (by show g < _; omega)).trans c5
    by_cases h1 : i < n.v
    · have h1' : decide ((i : Int) < (n.v : Int)) = true := by simp; omega
      have HF := hide (show WithP w B g nb kb ib sb A T i b (restr (den A.ns f) i b) n.v (.returned (.int .i64 (f : Int))) (w.alloc (.cells #[.int .i64 n.v, .int .i64 n.lo, .int .i64 n.hi] 126)) from
        ⟨f, nb, cap, A, K, S, rfl, res_there h.inv hf (by omega) (fun _ => (restr_above ok hf (by omega) b).symm), HW1.out⟩)
      clear h hs hk hsb ok hvf
      go_enter Try.func118, Try.ntmps118
      go_wp2
      go_ret
      exact HF.out
    have h1' : decide ((i : Int) < (n.v : Int)) = false := by simp; omega
    by_cases h2 : n.v = i
    · have h2' : ((n.v : Int) == (i : Int)) = true := by simp; omega
      obtain ⟨r, hr⟩ : ∃ r, Bdd.part A.ns f i b = r := ⟨_, rfl⟩
      have hlt := part_lt ok hf hi b
      have hpv := part_var ok hf hi (by omega) b
      have hpd := part_den ok hf hi (by omega) b
      rw [hr] at hlt hpv hpd
      have HF := hide (fun w' (hb : RowKit.Below (w.alloc (.cells #[.int .i64 n.v, .int .i64 n.lo, .int .i64 n.hi] 126)).heap.size (w.alloc (.cells #[.int .i64 n.v, .int .i64 n.lo, .int .i64 n.hi] 126)) w') => show WithP w B g nb kb ib sb A T i b (restr (den A.ns f) i b) n.v (.returned (.int .i64 (r : Int))) w' from
        ⟨r, nb, cap, A, K, S, rfl, res_there h.inv hlt (by omega) (fun _ => by rw [hpd]; rfl), HW1.out.below hb⟩)
      have HP := hide (part_is (HW1.out.ar) f i b hf hr)
      clear h hs hk hsb ok hvf hpd hr h2
      go_enter Try.func118, Try.ntmps118
      go_wp2_with fail
      refine HP.out.mono ?_
      rintro e w' ⟨rfl, hb⟩
      have HFF := hide (HF.out _ hb)
      clear hb
      go_wp2
      go_ret
      exact HFF.out
    have h2' : ((n.v : Int) == (i : Int)) = false := by simp; omega
    have hdom : numDom f := by show f < _; omega
    have him := fun (ob : Obj) => ((hs.same (w' := w.alloc ob) (RowKit.Below.heap_alloc _ _ _ ls)).look numKeys Try.underlying144 (zeroI2 _) hdom).1
    cases ek : S f with
    | some x =>
      obtain ⟨r, rfl, hr⟩ := hk f x ek
      obtain ⟨_, hrl, hrd⟩ := hr hfull
      have hlk : ∀ ob, (Instr.lookup 144 (.map (some sb)) (.int .i64 f) true).run Try.prog (w.alloc ob) = .ok (.tuple #[.int .i64 r, .bool true]) (w.alloc ob) := fun ob => by
        have := him ob
        rw [ek] at this
        exact this
      have HF := hide (show WithP w B g nb kb ib sb A T i b (restr (den A.ns f) i b) n.v (.returned (.int .i64 (r : Int))) (w.alloc (.cells #[.int .i64 n.v, .int .i64 n.lo, .int .i64 n.hi] 126)) from
        ⟨r, nb, cap, A, K, S, rfl, res_there h.inv hrl (var_ge ok hrl (by omega) (fun x y hxy => by rw [hrd]; exact restr_indep ok hf (by omega) i b x y hxy)) (fun _ => hrd), HW1.out⟩)
      clear h hs hk hsb ok hvf him ek hr hrd
      go_enter Try.func118, Try.ntmps118
      go_wp2
      go_ret
      exact HF.out
    | none =>
      have hlk : ∀ ob, (Instr.lookup 144 (.map (some sb)) (.int .i64 f) true).run Try.prog (w.alloc ob) = .ok (.tuple #[.int .i64 0, .bool false]) (w.alloc ob) := fun ob => by
        have := him ob
        rw [ek] at this
        exact this
      have hf2 : 2 ≤ f := (var_lt_iff ok hf).1 (by omega)
      obtain ⟨hv, hl, hh, hne, g1, g2⟩ := ok.node f n hn hf2
      have HR1 := hide (restr_lo ok hn hf2 b h2)
      have HR2 := hide (restr_hi ok hn hf2 b h2)
      have HRI := hide (restr_indep ok hf (show n.v ≤ var A.ns f by omega) i b)
      have HNN := hide (show n.v < A.vars ∧ n.lo < f ∧ n.hi < f ∧ n.v + 1 ≤ var A.ns n.lo ∧ n.v + 1 ≤ var A.ns n.hi from ⟨hv, hl, hh, g1, g2⟩)
      have HFM := hide (And.intro hf (And.intro hi (And.intro hm hdom)))
      have HN := hide hn
      obtain ⟨nv, nlo, nhi⟩ := n
      simp only at *
      have hbx := heap_alloc_new w (.cells #[.int .i64 nv, .int .i64 nlo, .int .i64 nhi] 126)
      have hnN : ¬ Fs g nb kb ib sb w.heap.size := fun hS => by
        rcases hS with (e | e | e | e) | e <;> omega
      have hszN : w.heap.size < (w.alloc (.cells #[.int .i64 nv, .int .i64 nlo, .int .i64 nhi] 126)).heap.size := by simp
      have HBX := hide (And.intro hbx (And.intro hnN hszN))
      have HINV := hide h.inv
      clear h hs hk hsb ok hvf him ek hbx hnN hi hm hdom hn
      go_enter Try.func118, Try.ntmps118
      go_wp2
      clear hf c2 c5 c5' d0 d1 d2 hlk hfull h1 h2 h1' h2' hv hl hh hne g1 g2 hf2
      generalize hw0 : w.alloc _ = w0 at *
      obtain ⟨N, hN⟩ : ∃ N, w.heap.size = N := ⟨_, rfl⟩
      rw [hN] at HBX hszN ⊢
      clear hN hw0
      have x0 : w0.cell? ⟨N, 0, none⟩ = some (.int .i64 nv) := by rw [cell_of_row _ _ _ _ _ _ HBX.out.1]; rfl
      have x1 : w0.cell? ⟨N, 1, none⟩ = some (.int .i64 nlo) := by rw [cell_of_row _ _ _ _ _ _ HBX.out.1]; rfl
      have x2 : w0.cell? ⟨N, 2, none⟩ = some (.int .i64 nhi) := by rw [cell_of_row _ _ _ _ _ _ HBX.out.1]; rfl
      have HWA : Hid (WS w0 B g nb kb ib sb T i b w0 nb cap A K S) := hide (WS.start HW1.out.ar HW1.out.sm HW1.out.sk)
      have hlt0 : nb < w0.heap.size := Nat.lt_of_lt_of_le HLT.out.1 HB0.out.size
      have hls0 : sb < w0.heap.size := Nat.lt_of_lt_of_le HLT.out.2.1 HB0.out.size
      have HC1 := hide (fun w1 (hb : RowKit.Below w0.heap.size w0 w1) => with_inner IH.out hlt0 hls0 HLT.out.2.2 (HWA.out.below hb) HINV.out (Ext.refl HINV.out) nlo (by have := HNN.out; have := HFM.out.1; omega) HFM.out.2.1 (by have := HNN.out; have := HFM.out; omega))
      have HKEEP := hide (fun (w1 : World) nb1 cap1 A1 K1 S1 (hws : WS w0 B g nb kb ib sb T i b w1 nb1 cap1 A1 K1 S1) => show w1.cell? ⟨N, 0, none⟩ = some (.int .i64 nv) ∧ w1.cell? ⟨N, 1, none⟩ = some (.int .i64 nlo) ∧ w1.cell? ⟨N, 2, none⟩ = some (.int .i64 nhi) from by
        have e := (hws.block HBX.out.2.2 HBX.out.2.1).trans HBX.out.1
        exact ⟨by rw [cell_of_row _ _ _ _ _ _ e]; rfl, by rw [cell_of_row _ _ _ _ _ _ e]; rfl, by rw [cell_of_row _ _ _ _ _ _ e]; rfl⟩)
      go_region_held3 (fun w' => w'.cell? ⟨N, 0, none⟩ = some (.int .i64 nv) ∧ w'.cell? ⟨N, 1, none⟩ = some (.int .i64 nlo) ∧ w'.cell? ⟨N, 2, none⟩ = some (.int .i64 nhi)) (go_keep)
        (first
          | (go_at_call_of 118 (Value.int IntKind.i64 (nlo : Int)); refine (HC1.out _ (by exact ⟨rfl, rfl, rfl, Nat.le_refl _, fun _ _ => rfl⟩)).mono ?_; rintro e wa ⟨lo', nb1, cap1, A1, K1, S1, rfl, hr1, hw1⟩; have HW1a := hide hw1; have HRa := hide hr1; have HC2 := hide (fun w1 (hb : RowKit.Below wa.heap.size wa w1) => with_inner IH.out hlt0 hls0 HLT.out.2.2 (HW1a.out.below hb) HINV.out HRa.out.ext nhi (by have := HNN.out; have := HFM.out.1; omega) HFM.out.2.1 (by have := HNN.out; have := HFM.out; omega)); clear hw1 hr1 x0 x1 x2; obtain ⟨x0, x1, x2⟩ := HKEEP.out _ _ _ _ _ _ HW1a.out)
          | (go_at_call_of 118 (Value.int IntKind.i64 (nhi : Int)); refine (HC2.out _ (by first | exact RowKit.Below.refl _ _ | exact ⟨rfl, rfl, rfl, Nat.le_refl _, fun _ _ => rfl⟩)).mono ?_; rintro e wb ⟨hi', nb2, cap2, A2, K2, S2, rfl, hr2, hw2⟩; have HW2 := hide hw2; have HRb := hide hr2; clear hw2 hr2 x0 x1 x2; obtain ⟨x0, x1, x2⟩ := HKEEP.out _ _ _ _ _ _ HW2.out)
          | (go_at_call 89; have HC3 := hide (fun w1 (hb : RowKit.Below wb.heap.size wb w1) => made_ws hlt0 hls0 HLT.out.2.2 (HW2.out.below hb) HINV.out HNN.out.1 HRI.out rfl rfl ((HR1.out ▸ HRa.out).mono HNN.out.2.2.2.1) ((HR2.out ▸ (HRb.out)).mono HNN.out.2.2.2.2)); refine (HC3.out _ (by first | exact RowKit.Below.refl _ _ | exact ⟨rfl, rfl, rfl, Nat.le_refl _, fun _ _ => rfl⟩)).mono ?_; rintro e wc ⟨r, nb3, cap3, A3, K3, rfl, hr3, hw3⟩; have HW3 := hide hw3; have HRc := hide hr3; clear hw3 hr3 x0 x1 x2 HC3; obtain ⟨x0, x1, x2⟩ := HKEEP.out _ _ _ _ _ _ HW3.out))
      all_goals
        clear x0 x1 x2
        go_wp2_with (at_mapUpdate; refine wpList_storeM _ rfl (.tmp 69) (.tmp 70) (.tmp 71) 144 rfl 3 numKeys Try.underlying144 rfl (HW3.out.sm.same (w' := _) rfl) f HFM.out.2.2.2 rfl (.int .i64 (r : Int)) rfl ?_; intro w7 hk7 hg7)
        have HE := hide (show WithP w B g nb kb ib sb A T i b (restr (den A.ns f) i b) nv (.returned (.int .i64 (r : Int))) w7 from
          ⟨r, nb3, cap3, A3, K3, _, rfl, HRc.out, (store_ws hls0 HLT.out.2.2 HW3.out HINV.out HFM.out.1 HRc.out hk7 ⟨hg7.os, hg7.tape, hg7.output, hg7.size, hg7.block⟩).base HB0.out⟩)
        clear hk7 hg7
        go_wp2
        go_ret
        exact HE.out
end Go.Proofs.Ytoanimmlpfchjaa
