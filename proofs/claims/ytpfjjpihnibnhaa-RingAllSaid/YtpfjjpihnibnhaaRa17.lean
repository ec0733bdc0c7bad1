/- A part of the proof: RgShrink, Ring4. -/
import Derived.Test.YtpfjjpihnibnhaaRa16

set_option linter.unusedVariables false
set_option linter.unusedSimpArgs false
namespace Go.Proofs.Ytpfjjpihnibnhaa
open Go.RowKit Go.Maps Bdd

def ShrinkP (w : World) (B g : Nat) (A : St) (bl : List Nat) (base : Nat) (v : Value) (l : List StepV) (L : List StepT) (wb : Nat) (Mw : PoK → Option Value) (S : Pl → Bdd.Fn) (e : Ending) (w' : World) : Prop :=
  (∃ (nbk : Nat) (A' : St) (M' : PoK → Option Value), e = .returned (.tuple #[.map (some nbk), .int .i64 0]) ∧ SH w B g A bl base v l L wb nbk Mw S w' A' M' (shrinkF L S) []) ∨ (e = .returned (.tuple #[.map none, .int .i64 6]) ∧ RowKit.Below B w w')

theorem SH.start {w : World} {B g : Nat} {A : St} {bl : List Nat} {base : Nat} {v : Value} {l : List StepV} {L : List StepT} {wb : Nat} {Mw : PoK → Option Value} {S : Pl → Bdd.Fn} (h : RowS w B g A base 76 5 v l.length (l.flatMap StepV.cells) (wb :: bl)) (hok : StepsOk A l L) (hm : MapPl w wb Mw) (hs : SetsOk A Mw S (srcs L)) :
    SH w B g A bl base v l L wb w.heap.size Mw S (w.alloc (.map #[] 0)) A (fun _ => none) (fun _ _ => false) [] := by
  have hb := below_alloc2 w (.map #[] 0)
  refine ⟨h.alloc _, h.sa.kp hb, hok, Ext.refl h.sa.inv, hm.same (hb.block wb hm.lt), hs, MapIs.made w, SetsOk.empty h.sa.inv _, fun hj => ?_⟩
  exact Nat.lt_irrefl _ (h.sa.lt _ hj).2

set_option maxRecDepth 100000 in
set_option maxHeartbeats 8000000 in
theorem shrink_walk (w : World) (B g : Nat) (A : St) (bl : List Nat) (base : Nat) (v : Value) (l : List StepV) (L : List StepT) (wb : Nat) (Mw : PoK → Option Value) (S : Pl → Bdd.Fn) (h : RowS w B g A base 76 5 v l.length (l.flatMap StepV.cells) (wb :: bl)) (hok : StepsOk A l L) (hm : MapPl w wb Mw) (hs : SetsOk A Mw S (srcs L)) (hL : L.length ≤ 1000)
    (hsrc : ∀ t ∈ L, poDom t.src ∧ poDom t.to_) :
    Calls Try.prog 26 #[.pointer (some ⟨g, 0, none⟩), v, .map (some wb)] w (ShrinkP w B g A bl base v l L wb Mw S) := by
  have H0 := hide (SH.start h hok hm hs)
  have HL := hide hL
  have HSRC := hide hsrc
  have hll : l.length = L.length := hok.1
  have hl1 : l.length ≤ 1000 := by omega
  have HLE := hide hll
  clear hll
  obtain ⟨A0, c0, rfl, hc0, _, _⟩ := SlAt.of_own StepV.len h.own rfl
  clear h hok hm hs hL hsrc
  have hmm := @run_makeMap Try.prog
  go_enter Try.func26, Try.ntmps26
  go_wp2_with fail
  clear hmm
  generalize World.alloc w _ = w1 at *
  generalize w.heap.size = nbk at *
  go_loopw [16] (fun i wr => ∃ (k : Nat) (A2 : St) (M2 : PoK → Option Value), k ≤ l.length ∧ i = .int .i64 (k : Int) ∧ Hid (SH w B g A bl base (.slice A0 l.length c0) l L wb nbk Mw S wr A2 M2 (shrinkF (L.take k) S) [])) (fun i _ => l.length - (intOf i).toNat)
  case atStart => exact ⟨0, A, _, Nat.zero_le _, rfl, hide (by simpa [shrinkF] using H0.out)⟩
  case round =>
    clear H0
    obtain ⟨k, A2, M2, hk, rfl, HS⟩ := hrel
    by_cases hlt : k < l.length
    · obtain ⟨s, hs⟩ : ∃ s, l[k]? = some s := ⟨_, List.getElem?_eq_getElem hlt⟩
      obtain ⟨t, ht⟩ : ∃ t, L[k]? = some t := ⟨_, List.getElem?_eq_getElem (by have := HLE.out; omega)⟩
      have HT := hide ht
      obtain ⟨e1, e2, e3⟩ := HS.out.ok.2 k s t hs ht
      have HF := hide e3
      have hsl := own_sl StepV.len HS.out.row.own rfl
      obtain ⟨b, o, rfl, _, _⟩ := hsl.2 (by omega)
      obtain ⟨_, hg⟩ := hsl.get hs
      have q0 := hg 0 _ rfl
      have q1 := hg 1 _ rfl
      have q2 := hg 2 _ rfl
      have q3 := hg 3 _ rfl
      have q4 := hg 4 _ rfl
      obtain ⟨⟨x, y⟩, ⟨x', y'⟩, id⟩ := s
      simp only [Nat.add_zero] at q0 q1 q2 q3 q4 e1 e2
      have HE := hide (And.intro e1 e2)
      clear hs ht e1 e2 e3 hg hsl
      go_wp2_with fail
      have HSB := hide (HS.out.alloc (.cells #[.int .i64 x, .int .i64 y, .int .i64 x', .int .i64 y', .int .i64 (id : Int)] 76))
      have HX := hide (Bx.new wr #[.int .i64 x, .int .i64 y, .int .i64 x', .int .i64 y', .int .i64 (id : Int)] 76)
      have hnN := HS.out.mn.lt
      have htm := List.mem_of_getElem? HT.out
      have hdom := HSRC.out t htm
      rw [← HE.out.1, ← HE.out.2] at hdom
      have hdx := hdom.1
      have hdx' := hdom.2
      have HDX := hide hdx
      have HDX' := hide hdx'
      have HTM := hide (show (x, y) ∈ srcs L from by rw [HE.out.1]; exact List.mem_map_of_mem htm)
      clear q0 q1 q2 q3 q4 HS hdom hdx hdx' htm
      generalize World.alloc wr _ = w2 at *
      generalize wr.heap.size = N at *
      have hNn : nbk ∉ [N] := by simp; omega
      have HQ1 := hide (fun (w' : World) (A' : St) (M' : PoK → Option Value) (S' : Pl → Bdd.Fn) (h : SH w B g A bl base (.slice (some ⟨b, o, none⟩) l.length c0) l L wb nbk Mw S w' A' M' S' [N]) (hx : Bx w' N #[.int .i64 x, .int .i64 y, .int .i64 x', .int .i64 y', .int .i64 (id : Int)] 76) => show (w'.cell? ⟨N, 0, none⟩ = some (.int .i64 x) ∧ w'.cell? ⟨N, 1, none⟩ = some (.int .i64 y) ∧ w'.cell? ⟨N, 2, none⟩ = some (.int .i64 x') ∧ w'.cell? ⟨N, 3, none⟩ = some (.int .i64 y') ∧ w'.cell? ⟨N, 4, none⟩ = some (.int .i64 (id : Int))) ∧ (Instr.lookup 74 (.map (some wb)) (.agg #[.int .i64 x', .int .i64 y']) false).run Try.prog w' = .ok (.int .i64 ((numAt Mw (x', y') : Nat) : Int)) w' from
        ⟨⟨hx.get 0 _ rfl, hx.get 1 _ rfl, hx.get 2 _ rfl, hx.get 3 _ rfl, hx.get 4 _ rfl⟩, MapIs.lookN h.mw h.sw.ints x' y' HDX'.out.1 HDX'.out.2⟩)
      have HQ2 := hide (fun (w' : World) (A' : St) (S' : Pl → Bdd.Fn) (h : SH w B g A bl base (.slice (some ⟨b, o, none⟩) l.length c0) l L wb nbk Mw S w' A' M2 S' [N]) (hx : Bx w' N #[.int .i64 x, .int .i64 y, .int .i64 x', .int .i64 y', .int .i64 (id : Int)] 76) => show (w'.cell? ⟨N, 0, none⟩ = some (.int .i64 x) ∧ w'.cell? ⟨N, 1, none⟩ = some (.int .i64 y) ∧ w'.cell? ⟨N, 2, none⟩ = some (.int .i64 x') ∧ w'.cell? ⟨N, 3, none⟩ = some (.int .i64 y') ∧ w'.cell? ⟨N, 4, none⟩ = some (.int .i64 (id : Int))) ∧ (Instr.lookup 74 (.map (some nbk)) (.agg #[.int .i64 x, .int .i64 y]) false).run Try.prog w' = .ok (.int .i64 ((numAt M2 (x, y) : Nat) : Int)) w' from
        ⟨⟨hx.get 0 _ rfl, hx.get 1 _ rfl, hx.get 2 _ rfl, hx.get 3 _ rfl, hx.get 4 _ rfl⟩, MapIs.lookN h.mn h.sn.ints x y HDX.out.1 HDX.out.2⟩)
      have HSD := hide (HSB.out.below (RowKit.Below.refl _ _).drew)
      have HXD := hide (HX.out.below (RowKit.Below.refl _ _).drew)
      clear HSB HX
      refine wp_region_E (fun w' => (w'.cell? ⟨N, 0, none⟩ = some (.int .i64 x) ∧ w'.cell? ⟨N, 1, none⟩ = some (.int .i64 y) ∧ w'.cell? ⟨N, 2, none⟩ = some (.int .i64 x') ∧ w'.cell? ⟨N, 3, none⟩ = some (.int .i64 y') ∧ w'.cell? ⟨N, 4, none⟩ = some (.int .i64 (id : Int))) ∧ (Instr.lookup 74 (.map (some wb)) (.agg #[.int .i64 x', .int .i64 y']) false).run Try.prog w' = .ok (.int .i64 ((numAt Mw (x', y') : Nat) : Int)) w') 7 (by kernel_rfl) (HQ1.out _ _ _ _ HSD.out HXD.out) (fun hS inv => ?_)
      refine wpAnyE_pure (i := 0) (v := ?_) rfl (by kernel_rfl) (by kernel_rfl) (by kernel_rfl) (by kernel_rfl) (fun _ _ _ h => h) inv (Or.inl ⟨by rfl, ?_⟩) (fun _ => hS) (fun inv2 => ?_)
      rotate_left
      · intro w _
        go_simp
        try with_reducible rfl
      clear inv
      have inv := inv2
      clear inv2
      try simp only [Act.put, nrmA, nrmB, nrmC]
      refine wpAnyE_pure (i := 1) (v := ?_) rfl (by kernel_rfl) (by kernel_rfl) (by kernel_rfl) (by kernel_rfl) (fun _ _ _ h => h) inv (Or.inl ⟨by rfl, ?_⟩) (fun _ => hS) (fun inv2 => ?_)
      rotate_left
      · intro w _
        go_simp
        try with_reducible rfl
      clear inv
      have inv := inv2
      clear inv2
      try simp only [Act.put, nrmA, nrmB, nrmC]
      refine wpAnyE_load (i := 2) (v := ?_) [7] rfl (by kernel_rfl) (by kernel_rfl) (by kernel_rfl) (by kernel_rfl) (fun _ _ _ h => h) inv (Or.inl ⟨by rfl, ?_⟩) hS (fun inv2 => ?_)
      rotate_left
      · intro w hSw
        obtain ⟨⟨s0, s1, s2, s3, s4⟩, s5⟩ := hSw
        go_simp
        try with_reducible rfl
      clear inv
      have inv := inv2
      clear inv2
      try simp only [Act.put, nrmA, nrmB, nrmC]
      refine wpAnyE_pure (i := 3) (v := ?_) rfl (by kernel_rfl) (by kernel_rfl) (by kernel_rfl) (by kernel_rfl) (fun _ _ _ h => h) inv (Or.inl ⟨by rfl, ?_⟩) (fun _ => hS) (fun inv2 => ?_)
      rotate_left
      · intro w _
        go_simp
        try with_reducible rfl
      clear inv
      have inv := inv2
      clear inv2
      try simp only [Act.put, nrmA, nrmB, nrmC]
      refine wpAnyE_pure (i := 4) (v := ?_) rfl (by kernel_rfl) (by kernel_rfl) (by kernel_rfl) (by kernel_rfl) (fun _ _ _ h => h) inv (Or.inl ⟨by rfl, ?_⟩) (fun _ => hS) (fun inv2 => ?_)
      rotate_left
      · intro w _
        go_simp
        try with_reducible rfl
      clear inv
      have inv := inv2
      clear inv2
      try simp only [Act.put, nrmA, nrmB, nrmC]
      refine wpAnyE_load (i := 5) (v := ?_) [6, 7] rfl (by kernel_rfl) (by kernel_rfl) (by kernel_rfl) (by kernel_rfl) (fun _ _ _ h => h) inv (Or.inl ⟨by rfl, ?_⟩) hS (fun inv2 => ?_)
      rotate_left
      · intro w hSw
        obtain ⟨⟨s0, s1, s2, s3, s4⟩, s5⟩ := hSw
        go_simp
        try with_reducible rfl
      clear inv
      have inv := inv2
      clear inv2
      try simp only [Act.put, nrmA, nrmB, nrmC]
      refine wpAnyE_load (i := 6) (v := ?_) [7] rfl (by kernel_rfl) (by kernel_rfl) (by kernel_rfl) (by kernel_rfl) (fun _ _ _ h => h) inv (Or.inl ⟨by rfl, ?_⟩) hS (fun inv2 => ?_)
      rotate_left
      · intro w hSw
        obtain ⟨⟨s0, s1, s2, s3, s4⟩, s5⟩ := hSw
        go_simp
        try with_reducible rfl
      clear inv
      have inv := inv2
      clear inv2
      try simp only [Act.put, nrmA, nrmB, nrmC]
      refine wpAnyE_one (i := 7) rfl (by kernel_rfl) inv (fun K hK => ?_)
      go_simp
      refine (as_and HSD.out.row.sa HF.out (HSD.out.sw.isF (x', y'))).mono ?_
      rintro e w3 hq
      obtain ⟨A3, hs3, hx3, hres, hsm, hlow⟩ := HSD.out.call hq
      have HS3 := hide hs3
      have HX3 := hide (HXD.out.same (hsm N (by simp)))
      clear hq hs3 hx3 hsm hlow HSD HXD hS
      rcases hres with ⟨r1, rfl, hisf⟩ | ⟨rfl, hfull⟩
      case inr =>
        clear hfull
        have hS := HQ1.out _ _ _ _ HS3.out HX3.out
        go_simp
        refine hK.out _ _ (fun _ => hS) (fun inv2 => ?_)
        clear hK K hS
        clear inv
        have inv := inv2
        clear inv2
        try simp only [Act.put, nrmA, nrmB, nrmC]
        have hS := HQ1.out _ _ _ _ HS3.out HX3.out
        refine wpAnyE_pure (i := 8) (v := ?_) rfl (by kernel_rfl) (by kernel_rfl) (by kernel_rfl) (by kernel_rfl) (fun _ _ _ h => h) inv (Or.inl ⟨by rfl, ?_⟩) (fun _ => hS) (fun inv2 => ?_)
        rotate_left
        · intro w _
          go_simp
          try with_reducible rfl
        clear inv
        have inv := inv2
        clear inv2
        try simp only [Act.put, nrmA, nrmB, nrmC]
        refine wpAnyE_pure (i := 9) (v := ?_) rfl (by kernel_rfl) (by kernel_rfl) (by kernel_rfl) (by kernel_rfl) (fun _ _ _ h => h) inv (Or.inl ⟨by rfl, ?_⟩) (fun _ => hS) (fun inv2 => ?_)
        rotate_left
        · intro w _
          go_simp
          try with_reducible rfl
        clear inv
        have inv := inv2
        clear inv2
        try simp only [Act.put, nrmA, nrmB, nrmC]
        refine wpAnyE_pure (i := 10) (v := ?_) rfl (by kernel_rfl) (by kernel_rfl) (by kernel_rfl) (by kernel_rfl) (fun _ _ _ h => h) inv (Or.inl ⟨by rfl, ?_⟩) (fun _ => hS) (fun inv2 => ?_)
        rotate_left
        · intro w _
          go_simp
          try with_reducible rfl
        clear inv
        have inv := inv2
        clear inv2
        try simp only [Act.put, nrmA, nrmB, nrmC]
        refine wpAnyE_late (i := 11) rfl (by kernel_rfl) inv (by kernel_rfl) (fun K hK => ?_)
        go_simp
        refine hK.out _ _ (fun inv2 => ?_)
        clear hK K
        clear inv
        have inv := inv2
        clear inv2
        try simp only [Act.put, nrmA, nrmB, nrmC]
        refine wpAnyE_late (i := 12) rfl (by kernel_rfl) inv (by kernel_rfl) (fun K hK => ?_)
        go_simp
        refine hK.out _ _ (fun inv2 => ?_)
        clear hK K
        clear inv
        have inv := inv2
        clear inv2
        try simp only [Act.put, nrmA, nrmB, nrmC]
        refine wpAnyE_done (by kernel_rfl) ?_ _
        clear inv
        clear hS
        have HFN := hide (show ShrinkP w B g A bl base (.slice (some ⟨b, o, none⟩) l.length c0) l L wb Mw S (.returned (.tuple #[.map none, .int .i64 6])) w3 from .inr ⟨rfl, HS3.out.kp.low⟩)
        go_wp2
        go_ret2
        exact HFN.out
      have HR1 := hide hisf
      clear hisf
      have hS := HQ1.out _ _ _ _ HS3.out HX3.out
      go_simp
      refine hK.out _ _ (fun _ => hS) (fun inv2 => ?_)
      clear hK K hS
      clear inv
      have inv := inv2
      clear inv2
      try simp only [Act.put, nrmA, nrmB, nrmC]
      have hS := HQ1.out _ _ _ _ HS3.out HX3.out
      refine wpAnyE_pure (i := 8) (v := ?_) rfl (by kernel_rfl) (by kernel_rfl) (by kernel_rfl) (by kernel_rfl) (fun _ _ _ h => h) inv (Or.inl ⟨by rfl, ?_⟩) (fun _ => hS) (fun inv2 => ?_)
      rotate_left
      · intro w _
        go_simp
        try with_reducible rfl
      clear inv
      have inv := inv2
      clear inv2
      try simp only [Act.put, nrmA, nrmB, nrmC]
      refine wpAnyE_pure (i := 9) (v := ?_) rfl (by kernel_rfl) (by kernel_rfl) (by kernel_rfl) (by kernel_rfl) (fun _ _ _ h => h) inv (Or.inl ⟨by rfl, ?_⟩) (fun _ => hS) (fun inv2 => ?_)
      rotate_left
      · intro w _
        go_simp
        try with_reducible rfl
      clear inv
      have inv := inv2
      clear inv2
      try simp only [Act.put, nrmA, nrmB, nrmC]
      refine wpAnyE_pure (i := 10) (v := ?_) rfl (by kernel_rfl) (by kernel_rfl) (by kernel_rfl) (by kernel_rfl) (fun _ _ _ h => h) inv (Or.inl ⟨by rfl, ?_⟩) (fun _ => hS) (fun inv2 => ?_)
      rotate_left
      · intro w _
        go_simp
        try with_reducible rfl
      clear inv
      have inv := inv2
      clear inv2
      try simp only [Act.put, nrmA, nrmB, nrmC]
      refine wpAnyE_late (i := 11) rfl (by kernel_rfl) inv (by kernel_rfl) (fun K hK => ?_)
      go_simp
      refine hK.out _ _ (fun inv2 => ?_)
      clear hK K
      clear inv
      have inv := inv2
      clear inv2
      try simp only [Act.put, nrmA, nrmB, nrmC]
      refine wpAnyE_late (i := 12) rfl (by kernel_rfl) inv (by kernel_rfl) (fun K hK => ?_)
      go_simp
      refine hK.out _ _ (fun inv2 => ?_)
      clear hK K
      clear inv
      have inv := inv2
      clear inv2
      try simp only [Act.put, nrmA, nrmB, nrmC]
      refine wpAnyE_done (by kernel_rfl) ?_ _
      clear inv
      clear hS
      go_wp2_with fail
      clear HQ1
      have HSD := hide (HS3.out.below (RowKit.Below.refl _ _).drew)
      have HXD := hide (HX3.out.below (RowKit.Below.refl _ _).drew)
      clear HS3 HX3
      refine wp_region_E (fun w' => (w'.cell? ⟨N, 0, none⟩ = some (.int .i64 x) ∧ w'.cell? ⟨N, 1, none⟩ = some (.int .i64 y) ∧ w'.cell? ⟨N, 2, none⟩ = some (.int .i64 x') ∧ w'.cell? ⟨N, 3, none⟩ = some (.int .i64 y') ∧ w'.cell? ⟨N, 4, none⟩ = some (.int .i64 (id : Int))) ∧ (Instr.lookup 74 (.map (some nbk)) (.agg #[.int .i64 x, .int .i64 y]) false).run Try.prog w' = .ok (.int .i64 ((numAt M2 (x, y) : Nat) : Int)) w') 13 (by kernel_rfl) (HQ2.out _ _ _ HSD.out HXD.out) (fun hS inv => ?_)
      refine wpAnyE_pure (i := 0) (v := ?_) rfl (by kernel_rfl) (by kernel_rfl) (by kernel_rfl) (by kernel_rfl) (fun _ _ _ h => h) inv (Or.inl ⟨by rfl, ?_⟩) (fun _ => hS) (fun inv2 => ?_)
      rotate_left
      · intro w _
        go_simp
        try with_reducible rfl
      clear inv
      have inv := inv2
      clear inv2
      try simp only [Act.put, nrmA, nrmB, nrmC]
      refine wpAnyE_pure (i := 1) (v := ?_) rfl (by kernel_rfl) (by kernel_rfl) (by kernel_rfl) (by kernel_rfl) (fun _ _ _ h => h) inv (Or.inl ⟨by rfl, ?_⟩) (fun _ => hS) (fun inv2 => ?_)
      rotate_left
      · intro w _
        go_simp
        try with_reducible rfl
      clear inv
      have inv := inv2
      clear inv2
      try simp only [Act.put, nrmA, nrmB, nrmC]
      refine wpAnyE_load (i := 2) (v := ?_) [13] rfl (by kernel_rfl) (by kernel_rfl) (by kernel_rfl) (by kernel_rfl) (fun _ _ _ h => h) inv (Or.inl ⟨by rfl, ?_⟩) hS (fun inv2 => ?_)
      rotate_left
      · intro w hSw
        obtain ⟨⟨s0, s1, s2, s3, s4⟩, s5⟩ := hSw
        go_simp
        try with_reducible rfl
      clear inv
      have inv := inv2
      clear inv2
      try simp only [Act.put, nrmA, nrmB, nrmC]
      refine wpAnyE_pure (i := 3) (v := ?_) rfl (by kernel_rfl) (by kernel_rfl) (by kernel_rfl) (by kernel_rfl) (fun _ _ _ h => h) inv (Or.inl ⟨by rfl, ?_⟩) (fun _ => hS) (fun inv2 => ?_)
      rotate_left
      · intro w _
        go_simp
        try with_reducible rfl
      clear inv
      have inv := inv2
      clear inv2
      try simp only [Act.put, nrmA, nrmB, nrmC]
      refine wpAnyE_pure (i := 4) (v := ?_) rfl (by kernel_rfl) (by kernel_rfl) (by kernel_rfl) (by kernel_rfl) (fun _ _ _ h => h) inv (Or.inl ⟨by rfl, ?_⟩) (fun _ => hS) (fun inv2 => ?_)
      rotate_left
      · intro w _
        go_simp
        try with_reducible rfl
      clear inv
      have inv := inv2
      clear inv2
      try simp only [Act.put, nrmA, nrmB, nrmC]
      refine wpAnyE_pure (i := 5) (v := ?_) rfl (by kernel_rfl) (by kernel_rfl) (by kernel_rfl) (by kernel_rfl) (fun _ _ _ h => h) inv (Or.inl ⟨by rfl, ?_⟩) (fun _ => hS) (fun inv2 => ?_)
      rotate_left
      · intro w _
        go_simp
        try with_reducible rfl
      clear inv
      have inv := inv2
      clear inv2
      try simp only [Act.put, nrmA, nrmB, nrmC]
      refine wpAnyE_load (i := 6) (v := ?_) [7, 9, 10, 11, 13] rfl (by kernel_rfl) (by kernel_rfl) (by kernel_rfl) (by kernel_rfl) (fun _ _ _ h => h) inv (Or.inl ⟨by rfl, ?_⟩) hS (fun inv2 => ?_)
      rotate_left
      · intro w hSw
        obtain ⟨⟨s0, s1, s2, s3, s4⟩, s5⟩ := hSw
        go_simp
        try with_reducible rfl
      clear inv
      have inv := inv2
      clear inv2
      try simp only [Act.put, nrmA, nrmB, nrmC]
      refine wpAnyE_load (i := 7) (v := ?_) [9, 10, 11, 13] rfl (by kernel_rfl) (by kernel_rfl) (by kernel_rfl) (by kernel_rfl) (fun _ _ _ h => h) inv (Or.inl ⟨by rfl, ?_⟩) hS (fun inv2 => ?_)
      rotate_left
      · intro w hSw
        obtain ⟨⟨s0, s1, s2, s3, s4⟩, s5⟩ := hSw
        go_simp
        try with_reducible rfl
      clear inv
      have inv := inv2
      clear inv2
      try simp only [Act.put, nrmA, nrmB, nrmC]
      refine wpAnyE_pure (i := 8) (v := ?_) rfl (by kernel_rfl) (by kernel_rfl) (by kernel_rfl) (by kernel_rfl) (fun _ _ _ h => h) inv (Or.inl ⟨by rfl, ?_⟩) (fun _ => hS) (fun inv2 => ?_)
      rotate_left
      · intro w _
        go_simp
        try with_reducible rfl
      clear inv
      have inv := inv2
      clear inv2
      try simp only [Act.put, nrmA, nrmB, nrmC]
      refine wpAnyE_one (i := 9) rfl (by kernel_rfl) inv (fun K hK => ?_)
      go_simp
      refine (as_or HSD.out.row.sa (HSD.out.sn.isF (x, y)) HR1.out).mono ?_
      rintro e w4 hq
      obtain ⟨A4, hs3, hx3, hres, hsm, hlow⟩ := HSD.out.call hq
      have HS4 := hide hs3
      have HX4 := hide (HXD.out.same (hsm N (by simp)))
      clear hq hs3 hx3 hsm hlow HSD HXD hS HR1
      rcases hres with ⟨r2, rfl, hisf⟩ | ⟨rfl, hfull⟩
      case inr =>
        clear hfull
        have hS := HQ2.out _ _ _ HS4.out HX4.out
        obtain ⟨w5, hrun, hs5, hsm5, hsz5, hlow5⟩ := HS4.out.store (a := (x, y)) (n := 0) (F := fun _ => false) HDX.out HTM.out (IsF.zero HS4.out.inv) HL.out hNn
        simp only [poVal] at hrun
        rw [show ((0 : Nat) : Int) = 0 from rfl] at hrun
        go_simp
        refine hK.out _ _ (fun _ => hS) (fun inv2 => ?_)
        clear hK K hS
        clear inv
        have inv := inv2
        clear inv2
        try simp only [Act.put, nrmA, nrmB, nrmC]
        have hS := HQ2.out _ _ _ HS4.out HX4.out
        refine wpAnyE_pure (i := 10) (v := ?_) rfl (by kernel_rfl) (by kernel_rfl) (by kernel_rfl) (by kernel_rfl) (fun _ _ _ h => h) inv (Or.inl ⟨by rfl, ?_⟩) (fun _ => hS) (fun inv2 => ?_)
        rotate_left
        · intro w _
          go_simp
          try with_reducible rfl
        clear inv
        have inv := inv2
        clear inv2
        try simp only [Act.put, nrmA, nrmB, nrmC]
        refine wpAnyE_pure (i := 11) (v := ?_) rfl (by kernel_rfl) (by kernel_rfl) (by kernel_rfl) (by kernel_rfl) (fun _ _ _ h => h) inv (Or.inl ⟨by rfl, ?_⟩) (fun _ => hS) (fun inv2 => ?_)
        rotate_left
        · intro w _
          go_simp
          try with_reducible rfl
        clear inv
        have inv := inv2
        clear inv2
        try simp only [Act.put, nrmA, nrmB, nrmC]
        refine wpAnyE_pure (i := 12) (v := ?_) rfl (by kernel_rfl) (by kernel_rfl) (by kernel_rfl) (by kernel_rfl) (fun _ _ _ h => h) inv (Or.inl ⟨by rfl, ?_⟩) (fun _ => hS) (fun inv2 => ?_)
        rotate_left
        · intro w _
          go_simp
          try with_reducible rfl
        clear inv
        have inv := inv2
        clear inv2
        try simp only [Act.put, nrmA, nrmB, nrmC]
        clear hS
        refine wpAnyE_late (i := 13) rfl (by kernel_rfl) inv (by kernel_rfl) (fun K hK => ?_)
        go_simp
        refine hK.out _ _ (fun inv2 => ?_)
        clear hK K
        clear inv
        have inv := inv2
        clear inv2
        try simp only [Act.put, nrmA, nrmB, nrmC]
        refine wpAnyE_late (i := 14) rfl (by kernel_rfl) inv (by kernel_rfl) (fun K hK => ?_)
        go_simp
        refine hK.out _ _ (fun inv2 => ?_)
        clear hK K
        clear inv
        have inv := inv2
        clear inv2
        try simp only [Act.put, nrmA, nrmB, nrmC]
        refine wpAnyE_done (by kernel_rfl) ?_ _
        clear inv
        have HFN := hide (show ShrinkP w B g A bl base (.slice (some ⟨b, o, none⟩) l.length c0) l L wb Mw S (.returned (.tuple #[.map none, .int .i64 6])) w5 from .inr ⟨rfl, hs5.kp.low⟩)
        clear hrun hs5 hsm5 hsz5 hlow5
        go_wp2
        go_ret2
        exact HFN.out
      have HR2 := hide hisf
      clear hisf
      have hS := HQ2.out _ _ _ HS4.out HX4.out
      obtain ⟨w5, hrun, hs5, hsm5, hsz5, hlow5⟩ := HS4.out.store (a := (x, y)) (n := r2) HDX.out HTM.out HR2.out HL.out hNn
      simp only [poVal] at hrun
      go_simp
      refine hK.out _ _ (fun _ => hS) (fun inv2 => ?_)
      clear hK K hS
      clear inv
      have inv := inv2
      clear inv2
      try simp only [Act.put, nrmA, nrmB, nrmC]
      have hS := HQ2.out _ _ _ HS4.out HX4.out
      refine wpAnyE_pure (i := 10) (v := ?_) rfl (by kernel_rfl) (by kernel_rfl) (by kernel_rfl) (by kernel_rfl) (fun _ _ _ h => h) inv (Or.inl ⟨by rfl, ?_⟩) (fun _ => hS) (fun inv2 => ?_)
      rotate_left
      · intro w _
        go_simp
        try with_reducible rfl
      clear inv
      have inv := inv2
      clear inv2
      try simp only [Act.put, nrmA, nrmB, nrmC]
      refine wpAnyE_pure (i := 11) (v := ?_) rfl (by kernel_rfl) (by kernel_rfl) (by kernel_rfl) (by kernel_rfl) (fun _ _ _ h => h) inv (Or.inl ⟨by rfl, ?_⟩) (fun _ => hS) (fun inv2 => ?_)
      rotate_left
      · intro w _
        go_simp
        try with_reducible rfl
      clear inv
      have inv := inv2
      clear inv2
      try simp only [Act.put, nrmA, nrmB, nrmC]
      refine wpAnyE_pure (i := 12) (v := ?_) rfl (by kernel_rfl) (by kernel_rfl) (by kernel_rfl) (by kernel_rfl) (fun _ _ _ h => h) inv (Or.inl ⟨by rfl, ?_⟩) (fun _ => hS) (fun inv2 => ?_)
      rotate_left
      · intro w _
        go_simp
        try with_reducible rfl
      clear inv
      have inv := inv2
      clear inv2
      try simp only [Act.put, nrmA, nrmB, nrmC]
      clear hS
      refine wpAnyE_late (i := 13) rfl (by kernel_rfl) inv (by kernel_rfl) (fun K hK => ?_)
      go_simp
      refine hK.out _ _ (fun inv2 => ?_)
      clear hK K
      clear inv
      have inv := inv2
      clear inv2
      try simp only [Act.put, nrmA, nrmB, nrmC]
      refine wpAnyE_late (i := 14) rfl (by kernel_rfl) inv (by kernel_rfl) (fun K hK => ?_)
      go_simp
      refine hK.out _ _ (fun inv2 => ?_)
      clear hK K
      clear inv
      have inv := inv2
      clear inv2
      try simp only [Act.put, nrmA, nrmB, nrmC]
      refine wpAnyE_done (by kernel_rfl) ?_ _
      clear inv
      have HS5 := hide hs5
      clear hrun hs5 hsm5 hsz5 hlow5
      have HFE := hide (show (fun z => if (x, y) = z then orF (shrinkF (List.take k L) S (x, y)) (andF t.fn (S (x', y'))) else shrinkF (List.take k L) S z) = shrinkF (List.take (k + 1) L) S from by
        rw [shrinkF_snoc HT.out, HE.out.1, HE.out.2]
        funext z
        by_cases ez : t.src = z
        · subst ez; rfl
        · rw [if_neg ez, if_neg ez])
      go_wp2_with fail
      go_roundw
      case rel => exact ⟨k + 1, A4, _, by omega, by go_num, hide (by rw [← HFE.out]; exact HS5.out.less (by simp))⟩
      case measure => simp [intOf]; omega
    · obtain rfl : k = l.length := by omega
      have HFN := hide (show ShrinkP w B g A bl base (.slice A0 l.length c0) l L wb Mw S (.returned (.tuple #[.map (some nbk), .int .i64 0])) wr from .inl ⟨nbk, A2, M2, rfl, by have := HS.out; rwa [show List.take l.length L = L from by rw [HLE.out, List.take_length]] at this⟩)
      go_wp2
      go_ret2
      exact HFN.out
end Go.Proofs.Ytpfjjpihnibnhaa

set_option linter.unusedVariables false
set_option linter.unusedSimpArgs false
namespace Go.Proofs.Ytpfjjpihnibnhaa
open Go.RowKit

def lenOf : Value → Nat
  | .slice _ n _ => n
  | _ => 0

structure RW (W : World) (n : NetV) (p : P4) (w : World) (a b : Int) : Prop where
  bl : RowKit.Below W.heap.size W w
  n0 : w.cell? ⟨W.heap.size, 0, none⟩ = some (.slice n.dA n.dn n.dc)
  n1 : w.cell? ⟨W.heap.size, 1, none⟩ = some (.slice n.lA n.ln n.lc)
  at_ : Box2 w (W.heap.size + 1) a b
  pk : PackAt w (W.heap.size + 1 + 1) p
  sz : W.heap.size + 3 ≤ w.heap.size

section
variable {W w w' : World} {n : NetV} {p : P4} {a b : Int}
theorem RW.below (h : RW W n p w a b) (hb : RowKit.Below w.heap.size w w') : RW W n p w' a b := by
  have hs := h.sz
  have hs2 := hb.size
  exact ⟨h.bl.trans (hb.mono (by omega)), (hb.cell (p := ⟨W.heap.size, 0, none⟩) (by show W.heap.size < _; omega)).trans h.n0, (hb.cell (p := ⟨W.heap.size, 1, none⟩) (by show W.heap.size < _; omega)).trans h.n1,
    h.at_.below hb (by omega), h.pk.below hb (by omega), by omega⟩
theorem RW.alloc (h : RW W n p w a b) (o : Obj) : RW W n p (w.alloc o) a b := h.below ((RowKit.Below.refl _ _).alloc (Nat.le_refl _) o)
theorem RW.grown (h : RW W n p w a b) {row : Option Nat} (hg : w.grownBy w' row) (hr : ∀ q, row = some q → W.heap.size + 3 ≤ q) : RW W n p w' a b := by
  have hs := h.sz
  have hs2 := hg.size
  have hb : RowKit.Below (W.heap.size + 3) w w' := (RowKit.Below.refl _ _).grown hg hs hr
  exact ⟨h.bl.trans (hb.mono (by omega)), (hb.cell (p := ⟨W.heap.size, 0, none⟩) (by show W.heap.size < _; omega)).trans h.n0, (hb.cell (p := ⟨W.heap.size, 1, none⟩) (by show W.heap.size < _; omega)).trans h.n1,
    h.at_.below hb (by omega), h.pk.below hb (by omega), by omega⟩
theorem RW.set (h : RW W n p w a b) (c d : Int) : RW W n p ((w.setCell ⟨W.heap.size + 1, 0, none⟩ (.int .i64 c)).setCell ⟨W.heap.size + 1, 1, none⟩ (.int .i64 d)) c d := by
  have e : ∀ (w : World) (q : Addr) (o : Nat) (v : Value), q.block ≠ W.heap.size + 1 → (w.setCell ⟨W.heap.size + 1, o, none⟩ v).cell? q = w.cell? q := fun w q o v hq =>
    World.cell?_of_block (Below.heap_setCell w ⟨W.heap.size + 1, o, none⟩ v q.block hq)
  obtain ⟨z0, z1, z2, z3⟩ := h.at_
  have hsz : ((w.setCell ⟨W.heap.size + 1, 0, none⟩ (.int .i64 c)).setCell ⟨W.heap.size + 1, 1, none⟩ (.int .i64 d)).heap.size = w.heap.size := by simp [World.setCell]
  obtain ⟨y0, y1, y2, y3⟩ := h.pk
  refine ⟨(h.bl.setCell (by show _ ≤ W.heap.size + 1; omega) _).setCell (by show _ ≤ W.heap.size + 1; omega) _, ?_, ?_, ?_, ⟨?_, ?_, ?_, ?_⟩, by rw [hsz]; exact h.sz⟩
  · rw [e _ _ _ _ (by show W.heap.size ≠ _; omega), e _ _ _ _ (by show W.heap.size ≠ _; omega)]; exact h.n0
  · rw [e _ _ _ _ (by show W.heap.size ≠ _; omega), e _ _ _ _ (by show W.heap.size ≠ _; omega)]; exact h.n1
  · have c0 : (w.setCell ⟨W.heap.size + 1, 0, none⟩ (.int .i64 c)).cell? ⟨W.heap.size + 1, 1, none⟩ = some (.int .i64 b) := by
      rw [World.cell?_setCell_other _ _ _ _ (by simp)]; exact z1
    refine ⟨?_, ?_, ?_, ?_⟩
    · rw [World.cell?_setCell_other _ _ _ _ (by simp), World.cell?_setCell_same _ _ _ z0]
    · rw [World.cell?_setCell_same _ _ _ c0]
    · rw [World.frozen?_setCell, World.frozen?_setCell]; exact z2
    · rw [World.frozen?_setCell, World.frozen?_setCell]; exact z3
  · rw [e _ _ _ _ (by show W.heap.size + 1 + 1 ≠ _; omega), e _ _ _ _ (by show W.heap.size + 1 + 1 ≠ _; omega)]; exact y0
  · rw [e _ _ _ _ (by show W.heap.size + 1 + 1 ≠ _; omega), e _ _ _ _ (by show W.heap.size + 1 + 1 ≠ _; omega)]; exact y1
  · rw [e _ _ _ _ (by show W.heap.size + 1 + 1 ≠ _; omega), e _ _ _ _ (by show W.heap.size + 1 + 1 ≠ _; omega)]; exact y2
  · rw [e _ _ _ _ (by show W.heap.size + 1 + 1 ≠ _; omega), e _ _ _ _ (by show W.heap.size + 1 + 1 ≠ _; omega)]; exact y3
theorem own_set {base e s m : Nat} {v : Value} {xs : List Value} (h : w.ownsRow base e s v m xs) {q : Addr} (hq : q.block < base) (u : Value) : (w.setCell q u).ownsRow base e s v m xs :=
  own_same h (fun k hk => Below.heap_setCell w q u k (by have := (h.lt k hk).1; omega))
theorem own_mono {base base' e s m : Nat} {v : Value} {xs : List Value} (h : w.ownsRow base e s v m xs) (hb : base' ≤ base) : w.ownsRow base' e s v m xs := by
  obtain ⟨h1, h2⟩ := h
  refine ⟨h1, ?_⟩
  rcases h2 with h2 | ⟨g', cap', cur, hv, hb', hh, r⟩
  · exact .inl h2
  · exact .inr ⟨g', cap', cur, hv, by omega, hh, r⟩
end
theorem RW.new {W : World} (n : NetV) (p : P4) (a b : Int) (t0 t1 t2 : TypeId) : RW W n p (((W.alloc (.cells #[.slice n.dA n.dn n.dc, .slice n.lA n.ln n.lc] t0)).alloc (.cells #[.int .i64 a, .int .i64 b] t1)).alloc (.cells #[.int .i64 p.src, .int .i64 p.dst, .int .i64 p.sport, .int .i64 p.dport] t2)) a b := by
  obtain ⟨c, h1, h2⟩ := boxesL [(#[.slice n.dA n.dn n.dc, .slice n.lA n.ln n.lc], t0), (#[.int .i64 a, .int .i64 b], t1), (#[.int .i64 p.src, .int .i64 p.dst, .int .i64 p.sport, .int .i64 p.dport], t2)] W (RowKit.Below.refl _ _)
  have hb := (Box2.new (W.alloc (.cells #[.slice n.dA n.dn n.dc, .slice n.lA n.ln n.lc] t0)) a b t1).below ((RowKit.Below.refl _ _).alloc (Nat.le_refl _) (.cells #[.int .i64 p.src, .int .i64 p.dst, .int .i64 p.sport, .int .i64 p.dport] t2)) (by simp)
  exact ⟨h1, c 0 _ _ rfl 0 _ rfl, c 0 _ _ rfl 1 _ rfl, by simpa using hb, ⟨c 2 _ _ rfl 0 _ rfl, c 2 _ _ rfl 1 _ rfl, c 2 _ _ rfl 2 _ rfl, c 2 _ _ rfl 3 _ rfl⟩, h2⟩
end Go.Proofs.Ytpfjjpihnibnhaa
