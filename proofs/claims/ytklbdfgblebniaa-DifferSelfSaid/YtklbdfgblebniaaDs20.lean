/- A part of the proof: RdA, Rd15, Least, Differ, Df1. -/
import Derived.Test.YtklbdfgblebniaaDs19

set_option linter.unusedVariables false
set_option linter.unusedSimpArgs false
namespace Go.Proofs.Ytklbdfgblebniaa
open Go.RowKit Go.Maps Bdd

structure ReachM (w : World) (N B g : Nat) (A : St) (sA sc : Nat) (L : List Ent) (ks : List Pl) : Prop where
  sa : AS w B g A []
  v : A.vars = 14
  b0 : w.cell? ⟨N, 0, none⟩ = some (.slice (some ⟨sA, 0, none⟩) L.length sc)
  b1 : w.cell? ⟨N, 1, none⟩ = some (.pointer (some ⟨g, 0, none⟩))
  lt : N < w.heap.size ∧ sA < w.heap.size
  el : ∀ k e, L[k]? = some e → w.cell? ⟨sA, k, none⟩ = some (.map (some e.blk)) ∧ MapP w e.blk e.M ∧ MapOk A e.M e.S ks
  ne : 0 < L.length ∧ L.length ≤ 491521
theorem ReachM.below {w w' : World} {N B g : Nat} {A : St} {sA sc : Nat} {L : List Ent} {ks : List Pl} (h : ReachM w N B g A sA sc L ks) (hb : RowKit.Below w.heap.size w w') : ReachM w' N B g A sA sc L ks :=
  ⟨h.sa.below hb, h.v, (hb.cell (p := ⟨N, 0, none⟩) h.lt.1).trans h.b0, (hb.cell (p := ⟨N, 1, none⟩) h.lt.1).trans h.b1, ⟨Nat.lt_of_lt_of_le h.lt.1 hb.size, Nat.lt_of_lt_of_le h.lt.2 hb.size⟩,
    fun k e he => ⟨(hb.cell (p := ⟨sA, k, none⟩) h.lt.2).trans (h.el k e he).1, (h.el k e he).2.1.same (hb.block _ (h.el k e he).2.1.lt), (h.el k e he).2.2⟩, h.ne⟩
theorem Sums.reach {wr : World} {B g rb base : Nat} {A : St} {v : Value} {L : List Ent} {ks : List Pl} {more : List Nat} (h : Sums wr B g A rb base v L ks 0 more) (hv : A.vars = 14) (h0 : 0 < L.length) (hL : L.length ≤ 491521) : ∃ sA sc, ReachM wr rb B g A sA sc L ks ∧ base ≤ sA ∧ B ≤ rb ∧ ∀ e ∈ L, B ≤ e.blk := by
  obtain ⟨sA, sc, rfl, hsb, _⟩ := h.own.form (by omega)
  refine ⟨sA, sc, ⟨h.sa.mono (fun j hj => by cases hj), hv, h.bx.get 0 _ rfl, h.bx.get 1 _ rfl, ⟨h.bx.lt, (h.own.lt sA rfl).2⟩, fun k e he => ?_, h0, hL⟩, hsb, (h.sa.lt rb (by simp)).1, fun e he => (h.sa.lt e.blk (by
    simp only [List.mem_append, List.mem_cons, List.mem_map]
    exact .inr (.inr (.inr ⟨e, he, rfl⟩)))).1⟩
  have hm := h.ents e (List.mem_of_getElem? he)
  have hc := h.own.cells (g := sA) rfl k (.map (some e.blk)) (by simp [he])
  rw [addr_add, Nat.zero_add] at hc
  exact ⟨hc, hm.1, hm.2.ok⟩

structure ReachAt (w : World) (N : Nat) (ds : List Dev) (ls : List LinkV) (K : Nat) : Prop where
  ex : ∃ B g A sA sc L, ReachM w N B g A sA sc L (endsOf ls) ∧ L.map Ent.S = (List.range (K + 1)).map (roundS ds ls)
  fix : roundS ds ls (K + 1) = roundS ds ls K
  up : ∀ k, k < K → roundS ds ls (k + 1) ≠ roundS ds ls k
theorem ReachAt.below {w w' : World} {N : Nat} {ds : List Dev} {ls : List LinkV} {K : Nat} (h : ReachAt w N ds ls K) (hb : RowKit.Below w.heap.size w w') : ReachAt w' N ds ls K := by
  obtain ⟨B, g, A, sA, sc, L, h1, h2⟩ := h.ex
  exact ⟨⟨B, g, A, sA, sc, L, h1.below hb, h2⟩, h.fix, h.up⟩
theorem AS.from_ {w w' : World} {B g : Nat} {A : St} (h : AS w B g A []) (hc : ∀ i, B ≤ i → i < w.heap.size → w'.heap[i]? = w.heap[i]?) : AS w' B g A [] := by
  obtain ⟨nb, kb, ib, cap, K, T, ha, hf⟩ := h.ar
  obtain ⟨l1, l2, l3, l4, l5⟩ := ha.lts
  obtain ⟨m1, m2, m3⟩ := ha.lo
  exact ⟨⟨nb, kb, ib, cap, K, T, ha.keep (hc g m1 l1) (hc nb l5 l2) (hc kb m2 l3) (hc ib m3 l4), fun j hj => by cases hj⟩, h.nf⟩
structure ReachLo (Lo : Nat) (w : World) (N : Nat) (ds : List Dev) (ls : List LinkV) (K : Nat) : Prop where
  ex : ∃ B g A sA sc L, ReachM w N B g A sA sc L (endsOf ls) ∧ L.map Ent.S = (List.range (K + 1)).map (roundS ds ls) ∧ Lo ≤ B ∧ Lo ≤ N ∧ Lo ≤ sA ∧ ∀ e ∈ L, Lo ≤ e.blk
  fix : roundS ds ls (K + 1) = roundS ds ls K
  up : ∀ k, k < K → roundS ds ls (k + 1) ≠ roundS ds ls k
theorem ReachLo.at_ {Lo : Nat} {w : World} {N : Nat} {ds : List Dev} {ls : List LinkV} {K : Nat} (h : ReachLo Lo w N ds ls K) : ReachAt w N ds ls K := by
  obtain ⟨B, g, A, sA, sc, L, h1, h2, _⟩ := h.ex
  exact ⟨⟨B, g, A, sA, sc, L, h1, h2⟩, h.fix, h.up⟩
theorem ReachLo.keep {Lo : Nat} {w w' : World} {N : Nat} {ds : List Dev} {ls : List LinkV} {K : Nat} (h : ReachLo Lo w N ds ls K) (hs : w.heap.size ≤ w'.heap.size) (hc : ∀ i, Lo ≤ i → i < w.heap.size → w'.heap[i]? = w.heap[i]?) : ReachLo Lo w' N ds ls K := by
  obtain ⟨B, g, A, sA, sc, L, h1, h2, l1, l2, l3, l4⟩ := h.ex
  refine ⟨⟨B, g, A, sA, sc, L, ⟨h1.sa.from_ (fun i hi hl => hc i (by omega) hl), h1.v, (World.cell?_of_block (a := ⟨N, 0, none⟩) (hc N l2 h1.lt.1)).trans h1.b0, (World.cell?_of_block (a := ⟨N, 1, none⟩) (hc N l2 h1.lt.1)).trans h1.b1, ⟨Nat.lt_of_lt_of_le h1.lt.1 hs, Nat.lt_of_lt_of_le h1.lt.2 hs⟩, fun k e he => ?_, h1.ne⟩, h2, l1, l2, l3, l4⟩, h.fix, h.up⟩
  obtain ⟨q1, q2, q3⟩ := h1.el k e he
  exact ⟨(World.cell?_of_block (a := ⟨sA, k, none⟩) (hc sA l3 h1.lt.2)).trans q1, q2.same (hc _ (l4 e (List.mem_of_getElem? he)) q2.lt), q3⟩
theorem ReachLo.below {Lo : Nat} {w w' : World} {N : Nat} {ds : List Dev} {ls : List LinkV} {K : Nat} (h : ReachLo Lo w N ds ls K) (hb : RowKit.Below w.heap.size w w') : ReachLo Lo w' N ds ls K := h.keep hb.size (fun i _ hi => hb.block i hi)
def ReachNewP (n : NetV) (most : Nat) (P : Bdd.Fn → Prop) (W : World) (e : Ending) (W' : World) : Prop := RowKit.Below W.heap.size W W' ∧
  ((∃ N K, e = .returned (.tuple #[.pointer (some ⟨N, 0, none⟩), .int .i64 0]) ∧ ReachLo W.heap.size W' N n.devs n.ls K) ∨
   (∃ A, e = .returned (.tuple #[.pointer none, .int .i64 6]) ∧ Ext (newSt 14 most) A ∧ NwP P (newSt 14 most) A ∧ A.len = A.most))

def scanI : List Bdd.Fn → Nat → Asg → Int
  | [], _, _ => -1
  | F :: t, k, a => if F a then (k : Int) else scanI t (k + 1) a
theorem scanI_some (l : List Bdd.Fn) (k : Nat) (a : Asg) : 0 ≤ scanI l k a ↔ ∃ F ∈ l, F a = true := by
  induction l generalizing k with
  | nil => simp [scanI]
  | cons F t ih =>
    simp only [scanI, List.mem_cons, exists_eq_or_imp]
    by_cases h : F a = true
    · rw [if_pos h]; exact ⟨fun _ => .inl h, fun _ => by omega⟩
    · rw [if_neg h, ih (k + 1)]
      exact ⟨.inr, fun hh => hh.resolve_left h⟩
theorem scanI_drop {l : List Bdd.Fn} {k j : Nat} {F : Bdd.Fn} (a : Asg) (h : l[k]? = some F) : scanI (l.drop k) j a = if F a then (j : Int) else scanI (l.drop (k + 1)) (j + 1) a := by
  obtain ⟨hk, e⟩ := List.getElem?_eq_some_iff.1 h
  rw [List.drop_eq_getElem_cons hk, e]
  rfl
def roundP (ds : List Dev) (ls : List LinkV) (K : Nat) (x : Pl) (p : P4) : Int := if rightB p then scanI ((List.range (K + 1)).map fun k => roundS ds ls k x) 0 (asgOf (codeP p)) else -1
theorem roundP_some (ds : List Dev) (ls : List LinkV) (K : Nat) (x : Pl) (p : P4) : 0 ≤ roundP ds ls K x p ↔ rightB p = true ∧ roundS ds ls K x (asgOf (codeP p)) = true := by
  unfold roundP
  by_cases h : rightB p = true
  · rw [if_pos h, scanI_some]
    constructor
    · rintro ⟨F, hF, hh⟩
      obtain ⟨k, hk, rfl⟩ := List.mem_map.1 hF
      refine ⟨h, ?_⟩
      rw [List.mem_range] at hk
      clear hF
      induction K with
      | zero => have : k = 0 := by omega
                subst this; exact hh
      | succ K ih =>
        by_cases e : k = K + 1
        · subst e; exact hh
        · exact le_round ds ls K x _ (ih (by omega))
    · rintro ⟨_, hh⟩
      exact ⟨_, List.mem_map.2 ⟨K, List.mem_range.2 (by omega), rfl⟩, hh⟩
  · rw [if_neg h]
    exact ⟨fun h0 => absurd h0 (by decide), fun h0 => absurd h0.1 h⟩

end Go.Proofs.Ytklbdfgblebniaa

set_option linter.unusedVariables false
set_option linter.unusedSimpArgs false
namespace Go.Proofs.Ytklbdfgblebniaa
open Go.RowKit Go.Maps Bdd

theorem as_eval {w : World} {B g : Nat} {A : St} {bl : List Nat} (h : AS w B g A bl) (hv : A.vars = 14) {f c : Nat} {F : Bdd.Fn} (hf : IsF A f F) (hc : c < 16384) :
    Calls Try.prog 25 #[.pointer (some ⟨g, 0, none⟩), .int .i64 (f : Int), .int .i64 (c : Int)] w fun e W' => e = .returned (.tuple #[.bool (F (asgOf c)), .int .i64 0]) ∧ RowKit.Below w.heap.size w W' := by
  obtain ⟨nb, kb, ib, cap, K, T, har, hb⟩ := h.ar
  refine (eval_walk har f c hf.1 (by rw [hv]; exact hc)).mono fun e w' hq => ?_
  rw [hv, hf.2] at hq
  exact hq

set_option maxRecDepth 100000 in
set_option maxHeartbeats 4000000 in
theorem reachRound_walk (N : Nat) (ds : List Dev) (ls : List LinkV) (K : Nat) (x : Pl) (hx : poDom x) (p : P4) (W : World) (h : ReachAt W N ds ls K) : Calls Try.prog 11 #[.pointer (some ⟨N, 0, none⟩), .agg #[.int .i64 x.1, .int .i64 x.2], .agg #[.int .i64 p.src, .int .i64 p.dst, .int .i64 p.sport, .int .i64 p.dport]] W fun e W' => e = .returned (.int .i64 (roundP ds ls K x p)) ∧ RowKit.Below W.heap.size W W' := by
  obtain ⟨B, g, A, sA, sc, L, hm, hL⟩ := h.ex
  have hlen : L.length = K + 1 := by have := congrArg List.length hL; simpa using this
  have HRP := hide (show roundP ds ls K x p = if rightB p then scanI (L.map fun e => e.S x) 0 (asgOf (codeP p)) else -1 from by
    unfold roundP
    have e : (L.map fun e => e.S x) = (List.range (K + 1)).map fun k => roundS ds ls k x := by
      have := congrArg (List.map fun S : Pl → Bdd.Fn => S x) hL
      simpa [List.map_map, Function.comp_def] using this
    rw [e])
  have HC := hide (fun (w : World) => code_walk p w)
  have HCL := hide (fun h => code_lt (p := p) h)
  obtain ⟨y1, y2⟩ := x
  obtain ⟨a, b, c, d⟩ := p
  have hb0 := (below_alloc2 W (.cells #[.int .i64 y1, .int .i64 y2] 43)).trans ((below_alloc2 (W.alloc (.cells #[.int .i64 y1, .int .i64 y2] 43)) (.cells #[.int .i64 a, .int .i64 b, .int .i64 c, .int .i64 d] 27)).mono (below_alloc2 W _).size)
  have HB0 := hide hb0
  have HX0 := hide ((Bx.new W #[.int .i64 y1, .int .i64 y2] 43).below (below_alloc2 (W.alloc (.cells #[.int .i64 y1, .int .i64 y2] 43)) (.cells #[.int .i64 a, .int .i64 b, .int .i64 c, .int .i64 d] 27)))
  have HM := hide (hm.below hb0)
  have HV := hide hm.v
  have hK : L.length ≤ 491521 := hm.ne.2
  generalize roundP ds ls K (y1, y2) ⟨a, b, c, d⟩ = RP at *
  clear h hm hL hlen hb0
  go_enter Try.func11, Try.ntmps11
  go_wp2_with fail
  generalize World.alloc (World.alloc W _) _ = w1 at *
  refine (HC.out _).mono ?_
  rintro e w2 ⟨rfl, hb⟩
  have HB2 := hide (HB0.out.trans (hb.mono HB0.out.size))
  have HX2 := hide (HX0.out.below hb)
  have HM2 := hide (HM.out.below hb)
  clear hb HB0 HX0 HM HC
  cases hR : rightB ⟨a, b, c, d⟩ with
  | false =>
    have HF := hide (show RP = -1 from by have := HRP.out; rw [hR] at this; exact this)
    clear hR HRP
    go_wp2
    go_ret
    exact ⟨by rw [HF.out]; rfl, HB2.out⟩
  | true =>
    have hcl := HCL.out hR
    have HF := hide (show RP = scanI (L.map fun e => e.S (y1, y2)) 0 (asgOf (codeP ⟨a, b, c, d⟩)) from by have := HRP.out; rw [hR] at this; exact this)
    generalize codeP ⟨a, b, c, d⟩ = cc at *
    clear hR HRP HCL
    have b0 := HM2.out.b0
    go_wp2_with fail
    clear b0
    go_loopw [25] (fun i wr => ∃ (k : Nat), k ≤ L.length ∧ i = .int .i64 (k : Int) ∧ Hid (scanI ((L.map fun e => e.S (y1, y2)).drop k) k (asgOf cc) = RP) ∧ Hid (RowKit.Below w2.heap.size w2 wr)) (fun i _ => L.length - (intOf i).toNat)
    case atStart => exact ⟨0, Nat.zero_le _, rfl, hide HF.out.symm, hide (RowKit.Below.refl _ _)⟩
    case round =>
      obtain ⟨k, hk, rfl, HS, HB⟩ := hrel
      by_cases hlt : k < L.length
      · obtain ⟨en, hen⟩ : ∃ en, L[k]? = some en := ⟨_, List.getElem?_eq_getElem hlt⟩
        have HM3 := hide (HM2.out.below HB.out)
        have HX3 := hide (HX2.out.below HB.out)
        have HFE := hide (HM3.out.el k en hen)
        have HSD := hide (scanI_drop (l := L.map fun e => e.S (y1, y2)) (k := k) (j := k) (asgOf cc) (F := en.S (y1, y2)) (by simp [hen]))
        have HE := hide hen
        have c0 : wr.cell? ⟨sA, k, none⟩ = some (.map (some en.blk)) := HFE.out.1
        clear hen
        go_wp2_with fail
        clear c0
        refine wp_region_abs (by kernel_rfl) (by kernel_rfl) ?_
        intro T hT gt hg1 hgi
        have HGT := hide hg1
        have HGI := hide hgi
        clear hg1 hgi
        have k1 : ∀ t, (gt t).cell? ⟨N, 1, none⟩ = some (.pointer (some ⟨g, 0, none⟩)) := fun t => (HM3.out.below (HGT.out t)).b1
        have k2 : ∀ t, (gt t).cell? ⟨W.heap.size, 0, none⟩ = some (.int .i64 y1) := fun t => (HX3.out.below (HGT.out t)).get 0 _ rfl
        have k3 : ∀ t, (gt t).cell? ⟨W.heap.size, 1, none⟩ = some (.int .i64 y2) := fun t => (HX3.out.below (HGT.out t)).get 1 _ rfl
        have k5 : ∀ t, (Instr.lookup 71 (.map (some en.blk)) (.agg #[.int .i64 y1, .int .i64 y2]) false).run Try.prog (gt t) = .ok (.int .i64 ((numAt en.M (y1, y2) : Nat) : Int)) (gt t) := fun t => MapIs.lookN (HFE.out.2.1.same ((HGT.out t).block _ HFE.out.2.1.lt)) HFE.out.2.2.ints y1 y2 hx.1 hx.2
        repeat (go_big_quiet_step ((go_at_call 25; exact inAbs HGT.out HGI.out (as_eval (HM3.out.below (HGT.out _)).sa HV.out (HFE.out.2.2.isF (y1, y2)) hcl))))
        refine wpQuiet_nil ?_
        intro _ hw'
        obtain ⟨t, rfl⟩ := hw'
        have HBB := hide (HB.out.trans ((HGT.out t).mono HB.out.size))
        generalize gt t = w3 at *
        clear HGT HGI k1 k2 k3 k5 HM3 HX3 HFE
        have HSK := hide (HSD.out.symm.trans HS.out)
        clear HSD HS HB
        cases hb : en.S (y1, y2) (asgOf cc)
        · have HN := hide (show scanI ((L.map fun e => e.S (y1, y2)).drop (k + 1)) (k + 1) (asgOf cc) = RP from by have := HSK.out; rw [hb] at this; exact this)
          clear hb HSK
          go_wp2_with fail
          go_roundw
          case rel => exact ⟨k + 1, by omega, by go_num, HN, HBB⟩
          case measure => simp [intOf]; omega
        · have HN := hide (show (k : Int) = RP from by have := HSK.out; rw [hb] at this; exact this)
          clear hb HSK
          go_wp2
          go_ret
          exact ⟨by rw [← HN.out]; rfl, HB2.out.trans (HBB.out.mono HB2.out.size)⟩
      · have hk2 : k = L.length := by omega
        have HN := hide (show RP = -1 from by
          have := HS.out
          rw [List.drop_of_length_le (by simp; omega)] at this
          exact this.symm)
        go_wp2
        go_ret
        exact ⟨by rw [HN.out]; rfl, HB2.out.trans (HB.out.mono HB2.out.size)⟩
end Go.Proofs.Ytklbdfgblebniaa

set_option linter.unusedVariables false
set_option linter.unusedSimpArgs false
namespace Go.Proofs.Ytklbdfgblebniaa
open Go.RowKit

def PBox (w : World) (N : Nat) (a b c d : Int) : Prop :=
  w.cell? ⟨N, 0, none⟩ = some (.int .i64 a) ∧ w.cell? ⟨N, 1, none⟩ = some (.int .i64 b) ∧ w.cell? ⟨N, 2, none⟩ = some (.int .i64 c) ∧ w.cell? ⟨N, 3, none⟩ = some (.int .i64 d) ∧
    w.frozen? ⟨N, 0, none⟩ = false ∧ w.frozen? ⟨N, 1, none⟩ = false ∧ w.frozen? ⟨N, 2, none⟩ = false ∧ w.frozen? ⟨N, 3, none⟩ = false
theorem PBox.below {w w' : World} {B N : Nat} {a b c d : Int} (h : PBox w N a b c d) (hB : Below B w w') (hN : N < B) : PBox w' N a b c d := by
  have e : ∀ o, w'.cell? ⟨N, o, none⟩ = w.cell? ⟨N, o, none⟩ := fun o => hB.cell (p := ⟨N, o, none⟩) hN
  have f : ∀ o, w'.frozen? ⟨N, o, none⟩ = w.frozen? ⟨N, o, none⟩ := fun o => hB.frozen (p := ⟨N, o, none⟩) hN
  unfold PBox
  rw [e, e, e, e, f, f, f, f]
  exact h
theorem PBox.new (w : World) (a b c d : Int) (t : TypeId) : PBox (w.alloc (.cells #[.int .i64 a, .int .i64 b, .int .i64 c, .int .i64 d] t)) w.heap.size a b c d := by
  have hbx := heap_alloc_new w (.cells #[.int .i64 a, .int .i64 b, .int .i64 c, .int .i64 d] t)
  have f : ∀ o, (w.alloc (.cells #[.int .i64 a, .int .i64 b, .int .i64 c, .int .i64 d] t)).frozen? ⟨w.heap.size, o, none⟩ = false := fun o => by unfold World.frozen?; rw [hbx]; simp
  exact ⟨by rw [cell_of_row _ _ _ _ _ _ hbx]; rfl, by rw [cell_of_row _ _ _ _ _ _ hbx]; rfl, by rw [cell_of_row _ _ _ _ _ _ hbx]; rfl, by rw [cell_of_row _ _ _ _ _ _ hbx]; rfl, f 0, f 1, f 2, f 3⟩

theorem packVal_ints (c : Nat) : ∃ x0 x1 x2 x3 : Int, packVal c = .agg #[.int .i64 x0, .int .i64 x1, .int .i64 x2, .int .i64 x3] := ⟨_, _, _, _, rfl⟩

end Go.Proofs.Ytklbdfgblebniaa

set_option linter.unusedVariables false
set_option linter.unusedSimpArgs false
namespace Go.Proofs.Ytklbdfgblebniaa
open Go.RowKit Go.Maps Bdd

set_option maxRecDepth 100000 in
set_option maxHeartbeats 4000000 in
theorem of_walk (w : World) (c : Nat) (hc : c < 16384) :
    Calls Try.prog 31 #[.int .i64 c] w fun e W' => e = .returned (.tuple #[packVal c, .int .i64 0]) ∧ Below w.heap.size w W' := by
  have b1 : ∀ m : Nat, m < 9223372036854775808 → Go.bits .and .i64 (m : Int) 15 = ((m % 16 : Nat) : Int) := fun m hm => by
    have := i64_and m 15 hm (by omega)
    rw [show (15 : Nat) = 2 ^ 4 - 1 from rfl, Nat.and_two_pow_sub_one_eq_mod] at this
    exact this
  have b2 : ∀ m : Nat, m < 9223372036854775808 → Go.bits .and .i64 (m : Int) 7 = ((m % 8 : Nat) : Int) := fun m hm => by
    have := i64_and m 7 hm (by omega)
    rw [show (7 : Nat) = 2 ^ 3 - 1 from rfl, Nat.and_two_pow_sub_one_eq_mod] at this
    exact this
  have HV : Hid (packVal c = .agg #[.int .i64 ((c : Int) / 1024), .int .i64 (Go.bits .and .i64 ((c : Int) / 64) 15), .int .i64 (Go.bits .and .i64 ((c : Int) / 8) 7), .int .i64 (Go.bits .and .i64 (c : Int) 7)]) := hide (by
    have e1 : ((c / 1024 : Nat) : Int) = (c : Int) / 1024 := by omega
    have e2 : ((c : Int) / 64) = ((c / 64 : Nat) : Int) := by omega
    have e3 : ((c : Int) / 8) = ((c / 8 : Nat) : Int) := by omega
    rw [e2, e3, b1 _ (by omega), b2 _ (by omega), b2 _ (by omega), ← e1]; rfl)
  clear b1 b2
  go_enter Try.func31, Try.ntmps31
  go_wp2_with fail
  refine (within_walk _ _ _ true (by simp; omega)).mono ?_
  rintro e w1 ⟨rfl, rfl⟩
  go_wp2
  refine bodyPost_ret (v := .tuple #[.agg #[.int .i64 ((c : Int) / 1024), .int .i64 (Go.bits .and .i64 ((c : Int) / 64) 15), .int .i64 (Go.bits .and .i64 ((c : Int) / 8) 7), .int .i64 (Go.bits .and .i64 (c : Int) 7)], .int .i64 0]) (by simp [results, Try.results31, go_sem]) rfl ⟨by rw [HV.out], ?_⟩
  exact (Below.refl _ _).alloc (Nat.le_refl _) _

def drErr (e : Int) : Value := .tuple #[.agg #[.int .i64 0, .int .i64 0, .int .i64 0, .int .i64 0], .int .i64 0, .int .i64 e]
def drV (r : Option (Nat × Nat)) : Value := match r with
  | some (c, k) => .tuple #[packVal c, .int .i64 (k : Int), .int .i64 0]
  | none => drErr 0
def DRP (l1 l2 : List RuleV) (W : World) (e : Ending) (W' : World) : Prop := RowKit.Below W.heap.size W W' ∧ (e = .returned (drErr 6) ∨ e = .returned (drV (leastF (fun c => letsB l1 (pk c)) (fun c => letsB l2 (pk c)) 16384)))

set_option maxRecDepth 100000 in
set_option maxHeartbeats 4000000 in
theorem differRules_large (W : World) (A1 A2 : Option Addr) (n1 n2 c1 c2 : Nat) (most : Int) (h : 8 < n1 ∨ 8 < n2) :
    Calls Try.prog 12 #[.slice A1 n1 c1, .slice A2 n2 c2, .int .i64 most] W fun e W' => e = .returned (drErr 2) ∧ RowKit.Below W.heap.size W W' := by
  have HB0 := hide (fun o0 o1 => show RowKit.Below W.heap.size W ((W.alloc o0).alloc o1) from ((RowKit.Below.refl _ _).alloc (Nat.le_refl _) _).alloc (by simp) _)
  by_cases h1 : 8 < n1
  · go_enter Try.func12, Try.ntmps12
    go_wp2
    refine wp_loop_rounds 1 ?_
    rw [rounds_succ]
    go_wp2_with (go_at_call 26; refine (aclCheck_walk _ _ _ _).mono ?_; rintro e w' ⟨rfl, rfl⟩; rw [if_pos h1])
    refine bodyPost_ret (v := drErr 2) (by simp [results, Try.results12, go_sem, drErr]) rfl ⟨rfl, HB0.out _ _⟩
  · have h2 : 8 < n2 := by omega
    go_enter Try.func12, Try.ntmps12
    go_wp2
    refine wp_loop_rounds 2 ?_
    rw [rounds_succ]
    go_wp2_with (go_at_call 26; refine (aclCheck_walk _ _ _ _).mono ?_; rintro e w' ⟨rfl, rfl⟩; rw [if_neg h1])
    rw [rounds_succ]
    go_wp2_with (go_at_call 26; refine (aclCheck_walk _ _ _ _).mono ?_; rintro e w' ⟨rfl, rfl⟩; rw [if_pos h2])
    refine bodyPost_ret (v := drErr 2) (by simp [results, Try.results12, go_sem, drErr]) rfl ⟨rfl, HB0.out _ _⟩
end Go.Proofs.Ytklbdfgblebniaa

set_option linter.unusedVariables false
set_option linter.unusedSimpArgs false
namespace Go.Proofs.Ytklbdfgblebniaa
open Go.RowKit Go.Maps Bdd

theorem right_nat2 (a b x y : Nat) (h1 : a ≤ 15) (h2 : b ≤ 15) (h3 : x ≤ 7) (h4 : y ≤ 7) : rightB ⟨(a : Int), (b : Int), (x : Int), (y : Int)⟩ = true := by
  simp only [rightB, inR, Bool.and_eq_true, decide_eq_true_eq]
  omega
theorem pk_right2 (c : Nat) (hc : c < 16384) : rightB (pk c) = true := right_nat2 (c / 1024) (c / 64 % 16) (c / 8 % 8) (c % 8) (by omega) (by omega) (by omega) (by omega)
theorem code_pk (c : Nat) (hc : c < 16384) : codeP (pk c) = c := by
  simp only [codeP, pk, Int.toNat_natCast]
  omega
def inS (ds : List Dev) (ls : List LinkV) (K : Nat) (x : Pl) (c : Nat) : Bool := roundS ds ls K x (asgOf c)
theorem roundP_in (ds : List Dev) (ls : List LinkV) (K : Nat) (x : Pl) (c : Nat) (hc : c < 16384) : decide (0 ≤ roundP ds ls K x (pk c)) = inS ds ls K x c := by
  rw [Bool.eq_iff_iff, decide_eq_true_eq, roundP_some, code_pk c hc]
  exact ⟨fun h => h.2, fun h => ⟨pk_right2 c hc, h⟩⟩
def sideV (N : Nat) (x : Pl) : Value := .agg #[.pointer (some ⟨N, 0, none⟩), .int .i64 x.1, .int .i64 x.2]

set_option maxRecDepth 100000 in
set_option maxHeartbeats 4000000 in
theorem has_walk2 (N : Nat) (ds : List Dev) (ls : List LinkV) (K : Nat) (x : Pl) (hx : poDom x) (c : Nat) (hc : c < 16384) (W : World) (h : ReachAt W N ds ls K) :
    Calls Try.prog 35 #[sideV N x, packVal c] W fun e W' => e = .returned (.bool (inS ds ls K x c)) ∧ RowKit.Below W.heap.size W W' := by
  have HR := hide (fun (w' : World) (hb : RowKit.Below W.heap.size W w') => reachRound_walk N ds ls K x hx (pk c) w' (h.below hb))
  have HRP := hide (roundP_in ds ls K x c hc)
  have HPV := hide (pk_val c)
  unfold sideV
  rw [pk_val]
  clear h
  obtain ⟨x1, x2⟩ := x
  generalize pk c = p at *
  obtain ⟨a, b, s, d⟩ := p
  simp only at *
  generalize inS ds ls K (x1, x2) c = R at *
  generalize roundP ds ls K (x1, x2) ⟨a, b, s, d⟩ = Q at *
  go_enter Try.func35, Try.ntmps35
  go_wp2_with fail
  have hb2 := (below_alloc2 W (.cells #[.pointer (some ⟨N, 0, none⟩), .int .i64 x1, .int .i64 x2] 98)).trans ((below_alloc2 (W.alloc (.cells #[.pointer (some ⟨N, 0, none⟩), .int .i64 x1, .int .i64 x2] 98)) (.cells #[.int .i64 a, .int .i64 b, .int .i64 s, .int .i64 d] 27)).mono (below_alloc2 W _).size)
  refine (HR.out _ hb2).mono ?_
  rintro e w3 ⟨rfl, hb⟩
  have HB3 := hide (hb2.trans (hb.mono hb2.size))
  clear hb hb2 HR
  go_wp2
  go_ret
  exact ⟨ret_bool (by simp [← HRP.out]), HB3.out⟩

set_option maxRecDepth 100000 in
set_option maxHeartbeats 4000000 in
theorem least_walk2 (Na Nb : Nat) (dsa dsb : List Dev) (lsa lsb : List LinkV) (Ka Kb : Nat) (x y : Pl) (hx : poDom x) (hy : poDom y) (W : World) (ha : ReachAt W Na dsa lsa Ka) (hb : ReachAt W Nb dsb lsb Kb) :
    Calls Try.prog 34 #[.func (.func 35) #[sideV Na x] #[], .func (.func 35) #[sideV Nb y] #[]] W fun e W' => e = .returned (leastV (leastF (inS dsa lsa Ka x) (inS dsb lsb Kb y) 16384)) ∧ RowKit.Below W.heap.size W W' := by
  have HA := hide (fun (c : Nat) (hc : c < 16384) (w' : World) (hb : RowKit.Below W.heap.size W w') => has_walk2 Na dsa lsa Ka x hx c hc w' (ha.below hb))
  have HBb := hide (fun (c : Nat) (hc : c < 16384) (w' : World) (hb' : RowKit.Below W.heap.size W w') => has_walk2 Nb dsb lsb Kb y hy c hc w' (hb.below hb'))
  clear ha hb
  generalize inS dsa lsa Ka x = F at *
  generalize inS dsb lsb Kb y = G at *
  generalize sideV Na x = u at *
  generalize sideV Nb y = v at *
  go_enter Try.func34, Try.ntmps34
  go_wp2_with fail
  have HZ0 := hide (Bx.new W #[.int .i64 0, .int .i64 0, .int .i64 0, .int .i64 0] 27)
  have HB0 := hide (below_alloc2 W (.cells #[.int .i64 0, .int .i64 0, .int .i64 0, .int .i64 0] 27))
  go_loopw [11] (fun i wr => ∃ k : Nat, k ≤ 16384 ∧ i = .int .i64 (k : Int) ∧ Hid (RowKit.Below W.heap.size W wr) ∧ Hid (Bx wr W.heap.size #[.int .i64 0, .int .i64 0, .int .i64 0, .int .i64 0] 27) ∧ Hid (∀ j, j < k → F j = G j)) (fun i _ => 16384 - (intOf i).toNat)
  case atStart => exact ⟨0, Nat.zero_le _, rfl, HB0, HZ0, hide (fun j h => absurd h (by omega))⟩
  case round =>
    clear HZ0 HB0
    obtain ⟨k, hk, rfl, HB, HZ, HE⟩ := hrel
    by_cases hlt : k < 16384
    · obtain ⟨x0, x1, x2, x3, hpv⟩ := packVal_ints k
      have HPV := hide hpv
      have HF1 := hide (fun w' hb => hpv ▸ HA.out k hlt w' hb)
      have HF2 := hide (fun w' hb => hpv ▸ HBb.out k hlt w' hb)
      have HPK := hide (hpv ▸ of_walk wr k hlt)
      clear hpv
      go_wp2_with fail
      refine HPK.out.mono ?_
      clear HPK
      rintro e wa ⟨rfl, hba⟩
      have hb2 := hba.trans ((below_alloc2 wa (.cells #[.int .i64 x0, .int .i64 x1, .int .i64 x2, .int .i64 x3] 27)).mono hba.size)
      have HBp := hide (HB.out.trans (hb2.mono HB.out.size))
      have HZp := hide (HZ.out.below hb2)
      have HXp := hide (Bx.new wa #[.int .i64 x0, .int .i64 x1, .int .i64 x2, .int .i64 x3] 27)
      have hne : W.heap.size ≠ wa.heap.size := by have := HZ.out.lt; have := hba.size; omega
      clear hba hb2 HB HZ
      go_wp2_with fail
      generalize World.alloc wa _ = wp at *
      generalize wa.heap.size = N at *
      obtain ⟨f, hf⟩ : ∃ f, F k = f := ⟨_, rfl⟩
      obtain ⟨g, hg⟩ : ∃ g, G k = g := ⟨_, rfl⟩
      simp only [hf] at HF1
      simp only [hg] at HF2
      have HFG := hide (And.intro hf hg)
      clear hf hg
      refine wp_region_abs (by kernel_rfl) (by kernel_rfl) ?_
      intro T hT gt hg1 hgi
      have HGT := hide hg1
      have HGI := hide hgi
      clear hg1 hgi
      have k0 : ∀ t, (gt t).cell? ⟨N, 0, none⟩ = some (.int .i64 x0) := fun t => (HXp.out.below (HGT.out t)).get 0 _ rfl
      have k1 : ∀ t, (gt t).cell? ⟨N, 1, none⟩ = some (.int .i64 x1) := fun t => (HXp.out.below (HGT.out t)).get 1 _ rfl
      have k2 : ∀ t, (gt t).cell? ⟨N, 2, none⟩ = some (.int .i64 x2) := fun t => (HXp.out.below (HGT.out t)).get 2 _ rfl
      have k3 : ∀ t, (gt t).cell? ⟨N, 3, none⟩ = some (.int .i64 x3) := fun t => (HXp.out.below (HGT.out t)).get 3 _ rfl
      repeat (go_big_quiet_step ((first | (go_at_call_of 35 (u); exact inAbs HGT.out HGI.out (HF1.out _ (HBp.out.trans ((HGT.out _).mono HBp.out.size)))) | (go_at_call_of 35 (v); exact inAbs HGT.out HGI.out (HF2.out _ (HBp.out.trans ((HGT.out _).mono HBp.out.size)))))))
      refine wpQuiet_nil ?_
      intro _ hw'
      obtain ⟨t, rfl⟩ := hw'
      have HBq := hide (HBp.out.trans ((HGT.out t).mono HBp.out.size))
      have HZq := hide (HZp.out.below (HGT.out t))
      have HXq := hide (HXp.out.below (HGT.out t))
      generalize gt t = wq at *
      clear HGT HGI k0 k1 k2 k3 HBp HZp HXp HF1 HF2
      have p0 := HXq.out.get 0 _ rfl
      have p1 := HXq.out.get 1 _ rfl
      have p2 := HXq.out.get 2 _ rfl
      have p3 := HXq.out.get 3 _ rfl
      have z0 := HZq.out.get 0 _ rfl
      have z1 := HZq.out.get 1 _ rfl
      have z2 := HZq.out.get 2 _ rfl
      have z3 := HZq.out.get 3 _ rfl
      have f0 := HZq.out.frozen 0
      have f1 := HZq.out.frozen 1
      have f2 := HZq.out.frozen 2
      have f3 := HZq.out.frozen 3
      cases f <;> cases g
      · go_wp2_with fail
        go_roundw
        case rel => exact ⟨k + 1, by omega, by go_num, HBq, HZq, hide (fun j hj => by
          rcases (by omega : j < k ∨ j = k) with h | rfl
          · exact HE.out j h
          · rw [HFG.out.1, HFG.out.2])⟩
        case measure => simp [intOf]; omega
      · have HR := hide (leastF_found hlt (by rw [HFG.out.1, HFG.out.2]; rfl) HE.out)
        go_wp2
        have HZf := (((HZq.out.set 0 (.int .i64 x0)).set 1 (.int .i64 x1)).set 2 (.int .i64 x2)).set 3 (.int .i64 x3)
        have y0 := HZf.get 0 (.int .i64 x0) rfl
        have y1 := HZf.get 1 (.int .i64 x1) rfl
        have y2 := HZf.get 2 (.int .i64 x2) rfl
        have y3 := HZf.get 3 (.int .i64 x3) rfl
        refine bodyPost_ret (v := .tuple #[.agg #[.int .i64 x0, .int .i64 x1, .int .i64 x2, .int .i64 x3], .int .i64 2]) (by simp only [results, Try.f34]; simp [go_sem, y0, y1, y2, y3]) rfl ⟨by rw [HR.out, HFG.out.1]; simp only [leastV]; rw [HPV.out]; rfl, ?_⟩
        exact (((HBq.out.setCell (Nat.le_refl _) _).setCell (Nat.le_refl _) _).setCell (Nat.le_refl _) _).setCell (Nat.le_refl _) _
      · have HR := hide (leastF_found hlt (by rw [HFG.out.1, HFG.out.2]; rfl) HE.out)
        go_wp2
        have HZf := (((HZq.out.set 0 (.int .i64 x0)).set 1 (.int .i64 x1)).set 2 (.int .i64 x2)).set 3 (.int .i64 x3)
        have y0 := HZf.get 0 (.int .i64 x0) rfl
        have y1 := HZf.get 1 (.int .i64 x1) rfl
        have y2 := HZf.get 2 (.int .i64 x2) rfl
        have y3 := HZf.get 3 (.int .i64 x3) rfl
        refine bodyPost_ret (v := .tuple #[.agg #[.int .i64 x0, .int .i64 x1, .int .i64 x2, .int .i64 x3], .int .i64 1]) (by simp only [results, Try.f34]; simp [go_sem, y0, y1, y2, y3]) rfl ⟨by rw [HR.out, HFG.out.1]; simp only [leastV]; rw [HPV.out]; rfl, ?_⟩
        exact (((HBq.out.setCell (Nat.le_refl _) _).setCell (Nat.le_refl _) _).setCell (Nat.le_refl _) _).setCell (Nat.le_refl _) _
      · go_wp2_with fail
        go_roundw
        case rel => exact ⟨k + 1, by omega, by go_num, HBq, HZq, hide (fun j hj => by
          rcases (by omega : j < k ∨ j = k) with h | rfl
          · exact HE.out j h
          · rw [HFG.out.1, HFG.out.2])⟩
        case measure => simp [intOf]; omega
    · have hk4 : k = 16384 := by omega
      have HR := hide (leastF_none (F := F) (G := G) (n := 16384) (fun j hj => HE.out j (by omega)))
      have z0 := HZ.out.get 0 _ rfl
      have z1 := HZ.out.get 1 _ rfl
      have z2 := HZ.out.get 2 _ rfl
      have z3 := HZ.out.get 3 _ rfl
      have f0 := HZ.out.frozen 0
      have f1 := HZ.out.frozen 1
      have f2 := HZ.out.frozen 2
      have f3 := HZ.out.frozen 3
      go_wp2
      have HZf := (((HZ.out.set 0 (.int .i64 0)).set 1 (.int .i64 0)).set 2 (.int .i64 0)).set 3 (.int .i64 0)
      have y0 := HZf.get 0 (.int .i64 0) rfl
      have y1 := HZf.get 1 (.int .i64 0) rfl
      have y2 := HZf.get 2 (.int .i64 0) rfl
      have y3 := HZf.get 3 (.int .i64 0) rfl
      refine bodyPost_ret (v := .tuple #[.agg #[.int .i64 0, .int .i64 0, .int .i64 0, .int .i64 0], .int .i64 0]) (by simp only [results, Try.f34]; simp [go_sem, y0, y1, y2, y3]) rfl ⟨by rw [HR.out]; rfl, ?_⟩
      exact (((HB.out.setCell (Nat.le_refl _) _).setCell (Nat.le_refl _) _).setCell (Nat.le_refl _) _).setCell (Nat.le_refl _) _
end Go.Proofs.Ytklbdfgblebniaa
