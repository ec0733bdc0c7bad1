/- A part of the proof: Rd15, RdC, RdM, Boxes. -/
import Derived.Test.YtklbdfgblebniaaRf20
import Derived.Deep.MidRow

set_option linter.unusedVariables false
set_option linter.unusedSimpArgs false
namespace Go.Proofs.Ytklbdfgblebniaa
open Go.RowKit Go.Maps Bdd

theorem as_eval {w : World} {B g : Nat} {A : St} {bl : List Nat} (h : AS w B g A bl) (hv : A.vars = 14) {f c : Nat} {F : Bdd.Fn} (hf : IsF A f F) (hc : c < 16384) :
    Calls Try.prog 25 #[.pointer (some ⟨g, 0, none⟩), .int .i64 (f : Int), .int .i64 (c : Int)] w fun e W' => e = .returned (.tuple #[.bool (F (asgOf c)), .int .i64 0]) ∧ RowKit.Below w.heap.size w W' := by
  obtain ⟨nb, kb, ib, cap, K, T, har, hb⟩ := h.ar
  refine (eval_walk har f c hf.1 (by rw [hv]; exact hc)).mono fun e w' hq => ?_
  rw [hv, hf.2] at hq
  exact hq

set_option maxRecDepth 100000 in
set_option maxHeartbeats 4000000 in
theorem reachCount_walk (N : Nat) (ds : List Dev) (ls : List LinkV) (K : Nat) (x : Pl) (hx : poDom x) (W : World) (h : ReachAt W N ds ls K) : Calls Try.prog 10 #[.pointer (some ⟨N, 0, none⟩), .agg #[.int .i64 x.1, .int .i64 x.2]] W fun e W' => e = .returned (.int .i64 ((cntF 14 14 (roundS ds ls K x) : Nat) : Int)) ∧ RowKit.Below W.heap.size W W' := by
  obtain ⟨B, g, A, sA, sc, L, hm, hL⟩ := h.ex
  have hlen : L.length = K + 1 := by have := congrArg List.length hL; simpa using this
  obtain ⟨en, hen⟩ : ∃ en, L[K]? = some en := ⟨_, List.getElem?_eq_getElem (by omega)⟩
  have hS : en.S = roundS ds ls K := by
    have := congrArg (fun l => l[K]?) hL
    simp only [List.getElem?_map, hen, List.getElem?_range (show K < K + 1 by omega), Option.map_some] at this
    exact Option.some.inj this
  obtain ⟨y1, y2⟩ := x
  have hb0 := below_alloc2 W (.cells #[.int .i64 y1, .int .i64 y2] 43)
  have HB0 := hide hb0
  have HX0 := hide (Bx.new W #[.int .i64 y1, .int .i64 y2] 43)
  have HR := hide (h.below hb0)
  have HM := hide (hm.below hb0)
  have HF := hide (show IsF A (numAt en.M (y1, y2)) (roundS ds ls K (y1, y2)) from hS ▸ (hm.el K en hen).2.2.isF (y1, y2))
  have HE := hide hen
  have HI := hide (hm.el K en hen).2.2.ints
  have HV := hide hm.v
  have hK : K ≤ 491520 := by have := hm.ne.2; omega
  have HLN := hide hlen
  clear h hm hL hlen hen hS hb0
  go_enter Try.func10, Try.ntmps10
  go_wp2_with fail
  generalize World.alloc W _ = w1 at *
  refine wp_region_abs (by kernel_rfl) (by kernel_rfl) ?_
  intro T hT gt hg1 hgi
  have HGT := hide hg1
  have HGI := hide hgi
  clear hg1 hgi
  have k0 : ∀ t, (gt t).cell? ⟨N, 0, none⟩ = some (.slice (some ⟨sA, 0, none⟩) (K + 1) sc) := fun t => HLN.out ▸ (HM.out.below (HGT.out t)).b0
  have k1 : ∀ t, (gt t).cell? ⟨N, 1, none⟩ = some (.pointer (some ⟨g, 0, none⟩)) := fun t => (HM.out.below (HGT.out t)).b1
  have k2 : ∀ t, (gt t).cell? ⟨W.heap.size, 0, none⟩ = some (.int .i64 y1) := fun t => (HX0.out.below (HGT.out t)).get 0 _ rfl
  have k3 : ∀ t, (gt t).cell? ⟨W.heap.size, 1, none⟩ = some (.int .i64 y2) := fun t => (HX0.out.below (HGT.out t)).get 1 _ rfl
  have k4 : ∀ t, (gt t).cell? ⟨sA, K, none⟩ = some (.map (some en.blk)) := fun t => ((HM.out.below (HGT.out t)).el K en HE.out).1
  have k5 : ∀ t, (Instr.lookup 71 (.map (some en.blk)) (.agg #[.int .i64 y1, .int .i64 y2]) false).run Try.prog (gt t) = .ok (.int .i64 ((numAt en.M (y1, y2) : Nat) : Int)) (gt t) := fun t => MapIs.lookN ((HM.out.below (HGT.out t)).el K en HE.out).2.1 HI.out y1 y2 hx.1 hx.2
  repeat (go_big_quiet_step ((first | (go_at_call 16; exact inAbsSame (rounds_walk N ds ls K _ (HR.out.below (HGT.out _)))) | (go_at_call 23; exact inAbs HGT.out HGI.out (as_count (HM.out.below (HGT.out _)).sa HF.out)))))
  refine wpQuiet_nil ?_
  intro _ hw'
  obtain ⟨t, rfl⟩ := hw'
  have HBB := hide (HB0.out.trans ((HGT.out t).mono HB0.out.size))
  generalize gt t = w3 at *
  clear HGT HGI k0 k1 k2 k3 k4 k5
  go_wp2
  go_ret
  exact ⟨by rw [HV.out]; rfl, HBB.out⟩

set_option maxRecDepth 100000 in
set_option maxHeartbeats 4000000 in
theorem reachRound_walk (N : Nat) (ds : List Dev) (ls : List LinkV) (K : Nat) (x : Pl) (hx : poDom x) (p : P4) (W : World) (h : ReachAt W N ds ls K) : Calls Try.prog 11 #[.pointer (some ⟨N, 0, none⟩), .agg #[.int .i64 x.1, .int .i64 x.2], .agg #[.int .i64 p.src, .int .i64 p.dst, .int .i64 p.sport, .int .i64 p.dport]] W fun e W' => e = .returned (.int .i64 (roundP ds ls K x p)) ∧ RowKit.Below W.heap.size W W' := by
  obtain ⟨B, g, A, sA, sc, L, hm, hL⟩ := h.ex
  have hlen : L.length = K + 1 := by have := congrArg List.length hL; simpa using this
  have HRP := hide (show roundP ds ls K x p = if rightB p then scanI (L.map fun e => e.S x) 0 (asgOf (codeP p)) else -1 from by
    unfold roundP
    have e : (L.map fun e => e.S x) = (List.range (K + 1)).map fun k => roundS ds ls k x := by
      have := congrArg (List.map fun S : Pl → Bdd.Fn => S x) hL
      simpa [List.map_map, Function.comp_def] using this
    rw [e])
  have HC := hide (fun (w : World) => code_walk p w)
  have HCL := hide (fun h => code_lt (p := p) h)
  obtain ⟨y1, y2⟩ := x
  obtain ⟨a, b, c, d⟩ := p
  have hb0 := (below_alloc2 W (.cells #[.int .i64 y1, .int .i64 y2] 43)).trans ((below_alloc2 (W.alloc (.cells #[.int .i64 y1, .int .i64 y2] 43)) (.cells #[.int .i64 a, .int .i64 b, .int .i64 c, .int .i64 d] 27)).mono (below_alloc2 W _).size)
  have HB0 := hide hb0
  have HX0 := hide ((Bx.new W #[.int .i64 y1, .int .i64 y2] 43).below (below_alloc2 (W.alloc (.cells #[.int .i64 y1, .int .i64 y2] 43)) (.cells #[.int .i64 a, .int .i64 b, .int .i64 c, .int .i64 d] 27)))
  have HM := hide (hm.below hb0)
  have HV := hide hm.v
  have hK : L.length ≤ 491521 := hm.ne.2
  generalize roundP ds ls K (y1, y2) ⟨a, b, c, d⟩ = RP at *
  clear h hm hL hlen hb0
  go_enter Try.func11, Try.ntmps11
  go_wp2_with fail
  generalize World.alloc (World.alloc W _) _ = w1 at *
  refine (HC.out _).mono ?_
  rintro e w2 ⟨rfl, hb⟩
  have HB2 := hide (HB0.out.trans (hb.mono HB0.out.size))
  have HX2 := hide (HX0.out.below hb)
  have HM2 := hide (HM.out.below hb)
  clear hb HB0 HX0 HM HC
  cases hR : rightB ⟨a, b, c, d⟩ with
  | false =>
    have HF := hide (show RP = -1 from by have := HRP.out; rw [hR] at this; exact this)
    clear hR HRP
    go_wp2
    go_ret
    exact ⟨by rw [HF.out]; rfl, HB2.out⟩
  | true =>
    have hcl := HCL.out hR
    have HF := hide (show RP = scanI (L.map fun e => e.S (y1, y2)) 0 (asgOf (codeP ⟨a, b, c, d⟩)) from by have := HRP.out; rw [hR] at this; exact this)
    generalize codeP ⟨a, b, c, d⟩ = cc at *
    clear hR HRP HCL
    have b0 := HM2.out.b0
    go_wp2_with fail
    clear b0
    go_loopw [25] (fun i wr => ∃ (k : Nat), k ≤ L.length ∧ i = .int .i64 (k : Int) ∧ Hid (scanI ((L.map fun e => e.S (y1, y2)).drop k) k (asgOf cc) = RP) ∧ Hid (RowKit.Below w2.heap.size w2 wr)) (fun i _ => L.length - (intOf i).toNat)
    case atStart => exact ⟨0, Nat.zero_le _, rfl, hide HF.out.symm, hide (RowKit.Below.refl _ _)⟩
    case round =>
      obtain ⟨k, hk, rfl, HS, HB⟩ := hrel
      by_cases hlt : k < L.length
      · obtain ⟨en, hen⟩ : ∃ en, L[k]? = some en := ⟨_, List.getElem?_eq_getElem hlt⟩
        have HM3 := hide (HM2.out.below HB.out)
        have HX3 := hide (HX2.out.below HB.out)
        have HFE := hide (HM3.out.el k en hen)
        have HSD := hide (scanI_drop (l := L.map fun e => e.S (y1, y2)) (k := k) (j := k) (asgOf cc) (F := en.S (y1, y2)) (by simp [hen]))
        have HE := hide hen
        have c0 : wr.cell? ⟨sA, k, none⟩ = some (.map (some en.blk)) := HFE.out.1
        clear hen
        go_wp2_with fail
        clear c0
        refine wp_region_abs (by kernel_rfl) (by kernel_rfl) ?_
        intro T hT gt hg1 hgi
        have HGT := hide hg1
        have HGI := hide hgi
        clear hg1 hgi
        have k1 : ∀ t, (gt t).cell? ⟨N, 1, none⟩ = some (.pointer (some ⟨g, 0, none⟩)) := fun t => (HM3.out.below (HGT.out t)).b1
        have k2 : ∀ t, (gt t).cell? ⟨W.heap.size, 0, none⟩ = some (.int .i64 y1) := fun t => (HX3.out.below (HGT.out t)).get 0 _ rfl
        have k3 : ∀ t, (gt t).cell? ⟨W.heap.size, 1, none⟩ = some (.int .i64 y2) := fun t => (HX3.out.below (HGT.out t)).get 1 _ rfl
        have k5 : ∀ t, (Instr.lookup 71 (.map (some en.blk)) (.agg #[.int .i64 y1, .int .i64 y2]) false).run Try.prog (gt t) = .ok (.int .i64 ((numAt en.M (y1, y2) : Nat) : Int)) (gt t) := fun t => MapIs.lookN (HFE.out.2.1.same ((HGT.out t).block _ HFE.out.2.1.lt)) HFE.out.2.2.ints y1 y2 hx.1 hx.2
        repeat (go_big_quiet_step ((go_at_call 25; exact inAbs HGT.out HGI.out (as_eval (HM3.out.below (HGT.out _)).sa HV.out (HFE.out.2.2.isF (y1, y2)) hcl))))
        refine wpQuiet_nil ?_
        intro _ hw'
        obtain ⟨t, rfl⟩ := hw'
        have HBB := hide (HB.out.trans ((HGT.out t).mono HB.out.size))
        generalize gt t = w3 at *
        clear HGT HGI k1 k2 k3 k5 HM3 HX3 HFE
        have HSK := hide (HSD.out.symm.trans HS.out)
        clear HSD HS HB
        cases hb : en.S (y1, y2) (asgOf cc)
        · have HN := hide (show scanI ((L.map fun e => e.S (y1, y2)).drop (k + 1)) (k + 1) (asgOf cc) = RP from by have := HSK.out; rw [hb] at this; exact this)
          clear hb HSK
          go_wp2_with fail
          go_roundw
          case rel => exact ⟨k + 1, by omega, by go_num, HN, HBB⟩
          case measure => simp [intOf]; omega
        · have HN := hide (show (k : Int) = RP from by have := HSK.out; rw [hb] at this; exact this)
          clear hb HSK
          go_wp2
          go_ret
          exact ⟨by rw [← HN.out]; rfl, HB2.out.trans (HBB.out.mono HB2.out.size)⟩
      · have hk2 : k = L.length := by omega
        have HN := hide (show RP = -1 from by
          have := HS.out
          rw [List.drop_of_length_le (by simp; omega)] at this
          exact this.symm)
        go_wp2
        go_ret
        exact ⟨by rw [HN.out]; rfl, HB2.out.trans (HB.out.mono HB2.out.size)⟩
end Go.Proofs.Ytklbdfgblebniaa

set_option linter.unusedVariables false
set_option linter.unusedSimpArgs false
namespace Go.Proofs.Ytklbdfgblebniaa
open Go.RowKit Go.Maps Bdd

def cubeF (c : Nat → Option Bool) : Nat → Bdd.Fn
  | 0 => fun _ => true
  | n + 1 => fun x => cubeF c n x && (match c n with | none => true | some b => x n == b)
def cubesL : Nat → List Bdd.Fn
  | 0 => [fun _ => true]
  | n + 1 => cubesL n ++ ((cubesL n).map (fun F x => F x && (x n == true)) ++ (cubesL n).map (fun F x => F x && (x n == false)))
theorem cubesL_len : ∀ n, (cubesL n).length = 3 ^ n
  | 0 => rfl
  | n + 1 => by
    simp only [cubesL, List.length_append, List.length_map, cubesL_len n]
    omega
theorem cube_mem (c : Nat → Option Bool) : ∀ n, cubeF c n ∈ cubesL n
  | 0 => List.mem_singleton.2 rfl
  | n + 1 => by
    have ih := cube_mem c n
    simp only [cubesL, List.mem_append, List.mem_map]
    cases e : c n with
    | none => exact .inl (by simpa only [cubeF, e, Bool.and_true] using ih)
    | some b =>
      cases b
      · exact .inr (.inr ⟨_, ih, by simp only [cubeF, e]⟩)
      · exact .inr (.inl ⟨_, ih, by simp only [cubeF, e]⟩)
theorem cube_at (c : Nat → Option Bool) (x : Asg) : ∀ n, (cubeF c n x = true ↔ ∀ u, u < n → ∀ b, c u = some b → x u = b)
  | 0 => ⟨fun _ u hu => by omega, fun _ => rfl⟩
  | n + 1 => by
    have ih := cube_at c x n
    simp only [cubeF, Bool.and_eq_true, ih]
    constructor
    · rintro ⟨h1, h2⟩ u hu b hb
      by_cases e : u = n
      · subst e
        rw [hb] at h2
        simpa using h2
      · exact h1 u (by omega) b hb
    · intro h
      refine ⟨fun u hu b hb => h u (by omega) b hb, ?_⟩
      cases e : c n with
      | none => rfl
      | some b => simpa using h n (by omega) b e

def IsC (F : Bdd.Fn) : Prop := F = (fun _ => false) ∨ ∃ c, F = cubeF c 8
theorem IsC.of {F : Bdd.Fn} (Q : Nat → Bool → Prop) (hq : ∀ u b, Q u b → u < 8) (h : ∀ x, F x = true ↔ ∀ u b, Q u b → x u = b) : IsC F := by
  by_cases e : ∃ x0, F x0 = true
  · obtain ⟨x0, h0⟩ := e
    have hx0 := (h x0).1 h0
    refine .inr ⟨fun v => open Classical in if ∃ b, Q v b then some (x0 v) else none, ?_⟩
    funext x
    rw [Bool.eq_iff_iff, cube_at, h]
    constructor
    · intro hx u hu b hb
      split at hb
      · rename_i hex
        obtain ⟨b', hb'⟩ := hex
        cases hb
        rw [hx u b' hb', hx0 u b' hb']
      · cases hb
    · intro hx u b hb
      rw [hx u (hq u b hb) (x0 u) (if_pos ⟨b, hb⟩), hx0 u b hb]
  · left
    funext x
    cases hx : F x
    · rfl
    · exact absurd ⟨x, hx⟩ e
theorem IsC.no : IsC (fun _ => false) := .inl rfl
theorem IsC.yes : IsC (fun _ => true) := IsC.of (fun _ _ => False) (fun _ _ h => h.elim) (fun x => ⟨fun _ _ _ h => h.elim, fun _ => rfl⟩)
theorem IsC.one {F : Bdd.Fn} (e : F = fun _ => true) : IsC F := e ▸ IsC.yes
theorem IsC.const (b : Bool) : IsC (fun _ => b) := by cases b; exact IsC.no; exact IsC.yes
theorem IsC.sub {F G : Bdd.Fn} (h : IsC F) (σ : Nat → Bool ⊕ Nat) (hσ : ∀ u, u < 8 → ∀ v, σ u = .inr v → v < 8) (hG : ∀ x, G x = F (fun u => match σ u with | .inl b => b | .inr v => x v)) : IsC G := by
  rcases h with rfl | ⟨c, rfl⟩
  · left; funext x; rw [hG]
  · by_cases e : ∃ u b b0, u < 8 ∧ c u = some b ∧ σ u = .inl b0 ∧ b0 ≠ b
    · obtain ⟨u, b, b0, hu, hc, hs, hne⟩ := e
      left
      funext x
      rw [hG]
      cases hx : cubeF c 8 (fun u => match σ u with | .inl b => b | .inr v => x v)
      · rfl
      · have := (cube_at _ _ _).1 hx u hu b hc
        simp only [hs] at this
        exact absurd this hne
    · refine IsC.of (fun v b => ∃ u, u < 8 ∧ c u = some b ∧ σ u = .inr v) (fun v b ⟨u, hu, _, hs⟩ => hσ u hu v hs) (fun x => ?_)
      rw [hG, cube_at]
      constructor
      · rintro hx v b ⟨u, hu, hc, hs⟩
        have := hx u hu b hc
        simpa only [hs] using this
      · intro hx u hu b hc
        cases hs : σ u with
        | inl b0 =>
          simp only
          by_cases hne : b0 = b
          · exact hne
          · exact absurd ⟨u, b, b0, hu, hc, hs, hne⟩ e
        | inr v => exact hx v b ⟨u, hu, hc, hs⟩
theorem IsC.and {F G : Bdd.Fn} (h : IsC F) (k : IsC G) : IsC (andF F G) := by
  rcases h with rfl | ⟨c, rfl⟩
  · left; funext x; rw [andF_at]; rfl
  rcases k with rfl | ⟨d, rfl⟩
  · left; funext x; rw [andF_at, Bool.and_false]
  refine IsC.of (fun v b => v < 8 ∧ (c v = some b ∨ d v = some b)) (fun _ _ h => h.1) (fun x => ?_)
  rw [andF_at, Bool.and_eq_true, cube_at, cube_at]
  exact ⟨fun ⟨h1, h2⟩ v b ⟨hv, hb⟩ => hb.elim (h1 v hv b) (h2 v hv b), fun h => ⟨fun v hv b hb => h v b ⟨hv, .inl hb⟩, fun v hv b hb => h v b ⟨hv, .inr hb⟩⟩⟩
theorem IsC.cof {F G : Bdd.Fn} (h : IsC F) (hc : Cof F G) : IsC G := by
  obtain ⟨k, s, rfl⟩ := hc
  refine h.sub (fun u => if u < k then .inl (s u) else .inr u) (fun u hu v hv => ?_) (fun x => ?_)
  · split at hv
    · cases hv
    · cases hv; exact hu
  · congr 1
    funext u
    by_cases e : u < k <;> simp [e]
theorem IsC.restr {F : Bdd.Fn} (h : IsC F) (i : Nat) (b : Bool) : IsC (restr F i b) := by
  refine h.sub (fun u => if u = i then .inl b else .inr u) (fun u hu v hv => ?_) (fun x => ?_)
  · split at hv
    · cases hv
    · cases hv; exact hu
  · unfold Go.Proofs.Ytklbdfgblebniaa.restr
    congr 1
    funext u
    by_cases e : u = i <;> simp [upd, e]
theorem IsC.eight {F : Bdd.Fn} (h : IsC F) {x y : Asg} (hxy : ∀ u, u < 8 → x u = y u) : F x = F y := by
  rcases h with rfl | ⟨c, rfl⟩
  · rfl
  · rw [Bool.eq_iff_iff, cube_at, cube_at]
    exact ⟨fun h u hu b hb => by rw [← hxy u hu]; exact h u hu b hb, fun h u hu b hb => by rw [hxy u hu]; exact h u hu b hb⟩

def roomC : List Bdd.Fn := (fun _ => false) :: ((List.range 14).map (fun u => fun x : Asg => x u) ++ cubesL 8)
theorem roomC_len : roomC.length = 6576 := by
  simp only [roomC, List.length_cons, List.length_append, List.length_map, List.length_range, cubesL_len]
def PCh (G : Bdd.Fn) : Prop := Bdd.Below 14 G → G ∈ roomC
theorem PCh.of {G : Bdd.Fn} (h : IsC G) : PCh G := fun _ => by
  unfold roomC
  rcases h with rfl | ⟨c, rfl⟩
  · exact List.mem_cons_self
  · exact List.mem_cons_of_mem _ (List.mem_append_right _ (cube_mem c 8))
theorem PCh.pc {F : Bdd.Fn} (h : IsC F) : PC PCh F := fun G hG => PCh.of (h.cof hG)
theorem PCh.var (u : Nat) : PC PCh (fun x => x u) := by
  rintro G ⟨k, s, rfl⟩
  by_cases e : u < k
  · have : (fun x : Asg => if u < k then s u else x u) = fun _ => s u := by funext x; rw [if_pos e]
    rw [this]
    exact PCh.of (IsC.const _)
  · have hx : (fun x : Asg => if u < k then s u else x u) = fun x => x u := by funext x; rw [if_neg e]
    rw [hx]
    intro hb
    have hu : u < 14 := Nat.lt_of_not_le (fun hu => by
      have := hb (fun _ => false) (fun v => decide (v = u)) (fun v hv => by
        have : v ≠ u := by omega
        simp [this])
      simp at this)
    unfold roomC
    exact List.mem_cons_of_mem _ (List.mem_append_left _ (List.mem_map.2 ⟨u, List.mem_range.2 hu, rfl⟩))

theorem ite_var (i : Nat) (K : Bdd.Fn) (j : Nat) : iteF (fun x => x i) (Go.Proofs.Ytklbdfgblebniaa.restr K j true) (Go.Proofs.Ytklbdfgblebniaa.restr K j false) = fun x => K (upd x j (x i)) := by
  funext x
  show (if x i = true then K (upd x j true) else K (upd x j false)) = K (upd x j (x i))
  by_cases e : x i = true
  · rw [if_pos e, e]
  · rw [if_neg e, Bool.eq_false_iff.2 e]
theorem IsC.takes {F : Bdd.Fn} (h : IsC F) (i j : Nat) (hij : (i < 8 ∧ j < 8) ∨ (8 ≤ i ∧ 8 ≤ j)) : IsC (fun x => F (upd x j (x i))) := by
  rcases hij with ⟨h1, h2⟩ | ⟨h1, h2⟩
  · refine h.sub (fun u => if u = j then .inr i else .inr u) (fun u hu v hv => ?_) (fun x => ?_)
    · split at hv <;> cases hv <;> assumption
    · congr 1
      funext u
      by_cases e : u = j <;> simp [upd, e]
  · have : (fun x => F (upd x j (x i))) = F := by
      funext x
      exact h.eight (fun u hu => upd_other x _ (by omega))
    rw [this]; exact h
theorem IsC.swap {F : Bdd.Fn} (h : IsC F) (i j : Nat) (hij : (i < 8 ∧ j < 8) ∨ (8 ≤ i ∧ 8 ≤ j)) : IsC (swapF F i j) := by
  rcases hij with ⟨h1, h2⟩ | ⟨h1, h2⟩
  · refine h.sub (fun u => if u = i then .inr j else if u = j then .inr i else .inr u) (fun u hu v hv => ?_) (fun x => ?_)
    · split at hv
      · cases hv; exact h2
      · split at hv <;> cases hv <;> assumption
    · unfold swapF
      congr 1
      funext u
      by_cases e : u = i
      · simp [upd, e]
      · by_cases e2 : u = j
        · subst e2
          simp [upd, e]
        · simp [upd, e, e2]
  · have : swapF F i j = F := by
      funext x
      unfold swapF
      exact h.eight (fun u hu => by rw [upd_other _ _ (by omega), upd_other _ _ (by omega)])
    rw [this]; exact h
theorem swap_ite (F : Bdd.Fn) (i j : Nat) (hij : i ≠ j) : iteF (fun x => x j) (iteF (fun x => x i) (Go.Proofs.Ytklbdfgblebniaa.restr (Go.Proofs.Ytklbdfgblebniaa.restr F i true) j true) (Go.Proofs.Ytklbdfgblebniaa.restr (Go.Proofs.Ytklbdfgblebniaa.restr F i true) j false)) (iteF (fun x => x i) (Go.Proofs.Ytklbdfgblebniaa.restr (Go.Proofs.Ytklbdfgblebniaa.restr F i false) j true) (Go.Proofs.Ytklbdfgblebniaa.restr (Go.Proofs.Ytklbdfgblebniaa.restr F i false) j false)) = swapF F i j := by
  rw [ite_var, ite_var]
  funext x
  show (if x j = true then F (upd (upd x j (x i)) i true) else F (upd (upd x j (x i)) i false)) = F (upd (upd x j (x i)) i (x j))
  by_cases e : x j = true
  · rw [if_pos e, e]
  · rw [if_neg e, Bool.eq_false_iff.2 e]
theorem IsC.swapPC {F : Bdd.Fn} (h : IsC F) (i j : Nat) (hij : (i < 8 ∧ j < 8) ∨ (8 ≤ i ∧ 8 ≤ j)) (hne : i ≠ j) : SwapPC PCh F i j :=
  ⟨PCh.var _, PCh.var _, PCh.pc (h.restr _ _), PCh.pc (h.restr _ _), PCh.pc ((h.restr _ _).restr _ _), PCh.pc ((h.restr _ _).restr _ _), by rw [ite_var]; exact PCh.pc ((h.restr _ _).takes i j hij),
    PCh.pc ((h.restr _ _).restr _ _), PCh.pc ((h.restr _ _).restr _ _), by rw [ite_var]; exact PCh.pc ((h.restr _ _).takes i j hij), by rw [swap_ite F i j hne]; exact PCh.pc (h.swap i j hij)⟩
theorem IsC.flip4 {F : Bdd.Fn} (h : IsC F) : ∀ k, k ≤ 4 → IsC (flip4 F k)
  | 0, _ => h
  | k + 1, hk => (IsC.flip4 h k (by omega)).swap _ _ (.inl ⟨by omega, by omega⟩)
theorem IsC.flip3 {F : Bdd.Fn} (h : IsC F) : ∀ k, k ≤ 3 → IsC (flip3 F k)
  | 0, _ => h
  | k + 1, hk => (IsC.flip3 h k (by omega)).swap _ _ (.inr ⟨by omega, by omega⟩)
theorem IsC.flip {F : Bdd.Fn} (h : IsC F) : IsC (flipF F) := (h.flip4 4 (Nat.le_refl _)).flip3 3 (Nat.le_refl _)
theorem IsC.flipPC {F : Bdd.Fn} (h : IsC F) : FlipPC PCh F :=
  ⟨fun k hk => (h.flip4 k (by omega)).swapPC _ _ (.inl ⟨by omega, by omega⟩) (by omega), fun k hk => ((h.flip4 4 (Nat.le_refl _)).flip3 k (by omega)).swapPC _ _ (.inr ⟨by omega, by omega⟩) (by omega)⟩

theorem outs_c {l : List PartV} (h : ∀ x ∈ l, IsC x.fn) : ∀ (F : Bdd.Fn), IsC F → IsC (l.foldl (fun F x => iteF F x.fn (fun _ => false)) F) := by
  induction l with
  | nil => exact fun F hF => hF
  | cons x l ih => exact fun F hF => ih (fun y hy => h y (List.mem_cons_of_mem _ hy)) _ (hF.and (h x List.mem_cons_self))
theorem newB_c {l : List PartV} (h : ∀ x ∈ l, IsC x.fn) {G : Bdd.Fn} (hG : NewB l G) : PCh G := by
  rcases hG with ⟨u, hG⟩ | ⟨x, hx, hG⟩ | ⟨k, hk, hG⟩
  · exact PCh.var u G hG
  · exact PCh.pc (h x hx) G hG
  · exact PCh.pc (outs_c (fun x hx => h x (List.mem_of_mem_take hx)) _ IsC.yes) G hG
theorem bit_all (d : Nat) : ∀ (set v n : Nat), (∀ m, m < 2 ^ d → set.testBit (n * 2 ^ d + m) = true) → bitF set d v n = fun _ => true := by
  induction d with
  | zero => intro set v n h; funext x; simpa [bitF] using h 0 (by simp)
  | succ d ih =>
    intro set v n h
    have e : 2 ^ (d + 1) = 2 * 2 ^ d := by rw [Nat.pow_succ]; omega
    have h1 : bitF set d (v + 1) (n * 2 + 1) = fun _ => true := ih _ _ _ (fun m hm => by
      have := h (2 ^ d + m) (by omega)
      rwa [e, show n * (2 * 2 ^ d) + (2 ^ d + m) = (n * 2 + 1) * 2 ^ d + m from by rw [Nat.add_mul, Nat.mul_assoc]; omega] at this)
    have h2 : bitF set d (v + 1) (n * 2) = fun _ => true := ih _ _ _ (fun m hm => by
      have := h m (by omega)
      rwa [e, ← Nat.mul_assoc] at this)
    funext x
    simp only [bitF, iteF, h1, h2]
    split <;> rfl
theorem all16 : bitF 65535 4 0 0 = fun _ => true := bit_all 4 _ _ _ (by decide)
theorem all16d : bitF 65535 4 4 0 = fun _ => true := bit_all 4 _ _ _ (by decide)
theorem all8s : bitF 255 3 8 0 = fun _ => true := bit_all 3 _ _ _ (by decide)
theorem all8d : bitF 255 3 11 0 = fun _ => true := bit_all 3 _ _ _ (by decide)
theorem bit_src1 (x : Asg) : bitF (2 ^ 1) 4 0 0 x = (!x 0 && !x 1 && !x 2 && x 3) := by
  have key : ∀ a b c d : Bool, x 0 = a → x 1 = b → x 2 = c → x 3 = d → bitF (2 ^ 1) 4 0 0 x = (!x 0 && !x 1 && !x 2 && x 3) := by
    intro a b c d h0 h1 h2 h3
    simp only [bitF, iteF, Nat.zero_add, Nat.reduceAdd, h0, h1, h2, h3]
    cases a <;> cases b <;> cases c <;> cases d <;> decide
  exact key _ _ _ _ rfl rfl rfl rfl
theorem bit_src2 (x : Asg) : bitF (2 ^ 2) 4 0 0 x = (!x 0 && !x 1 && x 2 && !x 3) := by
  have key : ∀ a b c d : Bool, x 0 = a → x 1 = b → x 2 = c → x 3 = d → bitF (2 ^ 2) 4 0 0 x = (!x 0 && !x 1 && x 2 && !x 3) := by
    intro a b c d h0 h1 h2 h3
    simp only [bitF, iteF, Nat.zero_add, Nat.reduceAdd, h0, h1, h2, h3]
    cases a <;> cases b <;> cases c <;> cases d <;> decide
  exact key _ _ _ _ rfl rfl rfl rfl
theorem src1_c : IsC (bitF (2 ^ 1) 4 0 0) := IsC.of (fun u b => u < 4 ∧ b = decide (u = 3)) (fun u b h => by omega) (fun x => by
  rw [bit_src1]
  simp only [Bool.and_eq_true, Bool.not_eq_true']
  constructor
  · rintro ⟨⟨⟨h0, h1⟩, h2⟩, h3⟩ u b ⟨hu, rfl⟩
    rcases (show u = 0 ∨ u = 1 ∨ u = 2 ∨ u = 3 by omega) with rfl | rfl | rfl | rfl
    · exact h0
    · exact h1
    · exact h2
    · exact h3
  · intro h
    exact ⟨⟨⟨h 0 _ ⟨by omega, rfl⟩, h 1 _ ⟨by omega, rfl⟩⟩, h 2 _ ⟨by omega, rfl⟩⟩, h 3 _ ⟨by omega, rfl⟩⟩)
theorem src2_c : IsC (bitF (2 ^ 2) 4 0 0) := IsC.of (fun u b => u < 4 ∧ b = decide (u = 2)) (fun u b h => by omega) (fun x => by
  rw [bit_src2]
  simp only [Bool.and_eq_true, Bool.not_eq_true']
  constructor
  · rintro ⟨⟨⟨h0, h1⟩, h2⟩, h3⟩ u b ⟨hu, rfl⟩
    rcases (show u = 0 ∨ u = 1 ∨ u = 2 ∨ u = 3 by omega) with rfl | rfl | rfl | rfl
    · exact h0
    · exact h1
    · exact h2
    · exact h3
  · intro h
    exact ⟨⟨⟨h 0 _ ⟨by omega, rfl⟩, h 1 _ ⟨by omega, rfl⟩⟩, h 2 _ ⟨by omega, rfl⟩⟩, h 3 _ ⟨by omega, rfl⟩⟩)
theorem src_parts {a : Nat} (h : IsC (bitF (2 ^ a) 4 0 0)) : ∀ x ∈ partL (2 ^ a) 65535 255 255, IsC x.fn := by
  intro x hx
  simp only [partL, List.mem_cons, List.not_mem_nil, or_false] at hx
  rcases hx with rfl | rfl | rfl | rfl
  · exact h
  · exact IsC.one all8s
  · exact IsC.one all16d
  · exact IsC.one all8d
theorem all_parts : ∀ x ∈ partL 65535 65535 255 255, IsC x.fn := by
  intro x hx
  simp only [partL, List.mem_cons, List.not_mem_nil, or_false] at hx
  rcases hx with rfl | rfl | rfl | rfl
  · exact IsC.one all16
  · exact IsC.one all8s
  · exact IsC.one all16d
  · exact IsC.one all8d
theorem srcM_c {a : Nat} (h : IsC (bitF (2 ^ a) 4 0 0)) : IsC (matchF (srcM a)) := outs_c (src_parts h) _ IsC.yes
theorem srcM_pc {a : Nat} (h : IsC (bitF (2 ^ a) 4 0 0)) : MatchPC PCh (srcM a) := fun G hG => newB_c (src_parts h) hG

theorem aclAll : aclF [allR true] = fun _ => true := by
  have : outs (partL 65535 65535 255 255) = fun _ => true := by
    have e1 : (PartV.fn ⟨65535, 4, 0⟩) = fun _ => true := all16
    have e2 : (PartV.fn ⟨255, 3, 8⟩) = fun _ => true := all8s
    have e3 : (PartV.fn ⟨65535, 4, 4⟩) = fun _ => true := all16d
    have e4 : (PartV.fn ⟨255, 3, 11⟩) = fun _ => true := all8d
    simp only [outs, partL, List.foldl_cons, List.foldl_nil, e1, e2, e3, e4]
    funext x
    simp [iteF]
  funext x
  show iteF (outs (partL 65535 65535 255 255)) (fun _ => true) (fun _ => false) x = true
  rw [this]
  rfl
theorem aclAll_pc : AclPC PCh [allR true] := by
  refine ⟨fun r hr G hG => ?_, fun k G hG => ?_⟩
  · rw [List.mem_singleton] at hr
    subst hr
    exact newB_c all_parts hG
  · cases k with
    | zero => exact PCh.pc (by rw [List.drop_zero, aclAll]; exact IsC.yes) G hG
    | succ k => exact PCh.pc (by simp only [List.drop_succ_cons, List.drop_nil, aclF]; exact IsC.no) G hG
theorem orF_no (F : Bdd.Fn) : orF (fun _ => false) F = F := by funext x; rw [orF_at, Bool.false_or]
theorem orF_same (F : Bdd.Fn) : orF F F = F := by funext x; rw [orF_at, Bool.or_self]
theorem andF_yes (F : Bdd.Fn) : andF F (fun _ => true) = F := by funext x; rw [andF_at, Bool.and_true]
end Go.Proofs.Ytklbdfgblebniaa

set_option linter.unusedVariables false
set_option linter.unusedSimpArgs false
namespace Go.Proofs.Ytklbdfgblebniaa
open Go.RowKit Go.Maps Bdd

def LeF (F G : Bdd.Fn) : Prop := ∀ a, F a = true → G a = true
theorem LeF.refl (F : Bdd.Fn) : LeF F F := fun _ h => h
theorem LeF.and {F F' G G' : Bdd.Fn} (h : LeF F F') (k : LeF G G') : LeF (andF F G) (andF F' G') := fun a ha => by
  rw [andF_at, Bool.and_eq_true] at ha ⊢
  exact ⟨h a ha.1, k a ha.2⟩
theorem LeF.or {F F' G G' : Bdd.Fn} (h : LeF F F') (k : LeF G G') : LeF (orF F G) (orF F' G') := fun a ha => by
  rw [orF_at, Bool.or_eq_true] at ha ⊢
  exact ha.imp (h a) (k a)
theorem existsF_at (F : Bdd.Fn) (i : Nat) (a : Asg) : existsF F i a = (F (upd a i false) || F (upd a i true)) := by
  unfold existsF iteF restr
  cases F (upd a i false) <;> simp
theorem LeF.exists {F F' : Bdd.Fn} (h : LeF F F') (i : Nat) : LeF (existsF F i) (existsF F' i) := fun a ha => by
  rw [existsF_at, Bool.or_eq_true] at ha ⊢
  exact ha.imp (h _) (h _)
theorem LeF.swap {F F' : Bdd.Fn} (h : LeF F F') (i j : Nat) : LeF (swapF F i j) (swapF F' i j) := fun a ha => h _ ha
theorem LeF.any {F F' : Bdd.Fn} (h : LeF F F') (a : Nat) : ∀ n, LeF (anyF F a n) (anyF F' a n)
  | 0 => h
  | n + 1 => (LeF.any h a n).exists _
theorem LeF.flip4 {F F' : Bdd.Fn} (h : LeF F F') : ∀ n, LeF (flip4 F n) (flip4 F' n)
  | 0 => h
  | n + 1 => (LeF.flip4 h n).swap _ _
theorem LeF.flip3 {F F' : Bdd.Fn} (h : LeF F F') : ∀ n, LeF (flip3 F n) (flip3 F' n)
  | 0 => h
  | n + 1 => (LeF.flip3 h n).swap _ _
theorem LeF.flip {F F' : Bdd.Fn} (h : LeF F F') : LeF (flipF F) (flipF F') := (h.flip4 4).flip3 3
theorem LeF.to {F F' : Bdd.Fn} (h : LeF F F') (a : Nat) : LeF (toF F a) (toF F' a) := (h.any _ _).and (LeF.refl _)
theorem LeF.from {F F' : Bdd.Fn} (h : LeF F F') (a : Nat) : LeF (fromF F a) (fromF F' a) := (h.any _ _).and (LeF.refl _)

def SubL (ls' ls : List LinkV) : Prop := ∀ x y, peerF ls' x = some y → peerF ls x = some y
theorem SubL.open {ls' ls : List LinkV} (h : SubL ls' ls) {x : Pl} (hx : (peerF ls' x).isSome = true) : (peerF ls x).isSome = true := by
  obtain ⟨y, hy⟩ := Option.isSome_iff_exists.1 hx
  rw [h x y hy]; rfl
theorem LeS.f {S S' : Pl → Bdd.Fn} (h : LeS S S') (x : Pl) : LeF (S x) (S' x) := h x

section
variable {ls' ls : List LinkV} {Sw Sw' S S' : Pl → Bdd.Fn} {F F' : Bdd.Fn}
theorem send_mono (h : SubL ls' ls) (y : Pl) (hF : LeF F' F) (hS : LeS S' S) : LeS (sendS ls' y F' S') (sendS ls y F S) := fun x a hx => by
  unfold sendS at hx
  cases e : peerF ls' y with
  | none => rw [e] at hx; exact le_send _ _ _ _ x a (hS x a hx)
  | some z =>
    rw [e] at hx
    unfold sendS
    rw [h y z e]
    show (if z = x then orF (S z) F else S x) a = true
    replace hx : (if z = x then orF (S' z) F' else S' x) a = true := hx
    by_cases ez : z = x
    · rw [if_pos ez] at hx ⊢
      exact (LeF.or (hS.f z) hF) a hx
    · rw [if_neg ez] at hx ⊢
      exact hS x a hx
theorem rtOut_mono (h : SubL ls' ls) (i : Nat) (ts : List RouteV) (hF : LeF F' F) (hS : LeS S' S) : ∀ o, LeS (rtOut ls' i ts F' S' o) (rtOut ls i ts F S o)
  | 0 => hS
  | o + 1 => send_mono h _ (hF.and (LeF.refl _)) (rtOut_mono h i ts hF hS o)
theorem rtIn_mono (h : SubL ls' ls) (i : Nat) (ts : List RouteV) (rs : List RuleV) (hw : LeS Sw' Sw) (hS : LeS S' S) : ∀ k, LeS (rtIn ls' i ts rs Sw' S' k) (rtIn ls i ts rs Sw S k)
  | 0 => hS
  | k + 1 => rtOut_mono h i ts ((hw.f _).and (LeF.refl _)) (rtIn_mono h i ts rs hw hS k) 4
theorem fire_mono (h : SubL ls' ls) (i : Nat) (rs : List RuleV) (hw : LeS Sw' Sw) (hS : LeS S' S) : LeS (fireS ls' i rs Sw' S') (fireS ls i rs Sw S) := by
  have h1 := send_mono h ((i : Int), 1) ((hw.f ((i : Int), 0)).and (LeF.refl (aclF rs))) hS
  unfold fireS
  by_cases e' : (peerF ls' ((i : Int), 1)).isSome = true
  · rw [if_pos e', if_pos (h.open e')]
    exact send_mono h _ ((hw.f _).and ((hw.f _).and (LeF.refl _)).flip) h1
  · rw [if_neg e']
    split
    · exact h1.trans (le_send _ _ _ _)
    · exact h1
theorem nat_mono (h : SubL ls' ls) (i a pl : Nat) (hw : LeS Sw' Sw) (hS : LeS S' S) : LeS (natS ls' i a pl Sw' S') (natS ls i a pl Sw S) := by
  have h1 := send_mono h ((i : Int), 1) ((((hw.f ((i : Int), 0)).any 0 4).any 8 3).and (LeF.refl (matchF (natO a pl)))) hS
  unfold natS
  by_cases e' : (peerF ls' ((i : Int), 1)).isSome = true
  · rw [if_pos e', if_pos (h.open e')]
    exact send_mono h _ (LeF.and ((((hw.f _).and (LeF.refl _)).any _ _).any _ _) ((((hw.f _).any _ _).any _ _).flip)) h1
  · rw [if_neg e']
    split
    · exact h1.trans (le_send _ _ _ _)
    · exact h1
theorem balQ_mono (i a : Nat) (hw : LeS Sw' Sw) : LeF (balQ i a Sw') (balQ i a Sw) := (hw.f _).and (LeF.refl _)
theorem balStep_mono (h : SubL ls' ls) (i a b : Nat) (hw : LeS Sw' Sw) (hS : LeS S' S) : LeS (balStep ls' i a Sw' b S') (balStep ls i a Sw b S) := by
  have h1 := send_mono h ((i : Int), 1) ((balQ_mono i a hw).to b) hS
  unfold balStep
  by_cases e' : (peerF ls' ((i : Int), 1)).isSome = true
  · rw [if_pos e', if_pos (h.open e')]
    exact send_mono h _ (LeF.from ((hw.f _).and ((balQ_mono i a hw).to b).flip) a) h1
  · rw [if_neg e']
    split
    · exact h1.trans (le_send _ _ _ _)
    · exact h1
theorem balFold_mono (h : SubL ls' ls) (i a : Nat) (hw : LeS Sw' Sw) : ∀ (l : List Int) {S S' : Pl → Bdd.Fn} (hS : LeS S' S), LeS (l.foldl (fun S b => balStep ls' i a Sw' b.toNat S) S') (l.foldl (fun S b => balStep ls i a Sw b.toNat S) S)
  | [], S, S', hS => hS
  | b :: t, S, S', hS => balFold_mono h i a hw t (balStep_mono h i a b.toNat hw hS)
theorem bal_mono (h : SubL ls' ls) (i a : Nat) (bs : List Int) (hw : LeS Sw' Sw) (hS : LeS S' S) : LeS (balS ls' i a bs Sw' S') (balS ls i a bs Sw S) := by
  unfold balS balTo bal0
  exact balFold_mono h i a hw _ (send_mono h _ (hw.f _) (send_mono h _ ((hw.f _).and (LeF.refl _)) hS))
theorem dev_mono (h : SubL ls' ls) (i : Nat) (d : Dev) (hw : LeS Sw' Sw) (hS : LeS S' S) : LeS (devS ls' i d Sw' S') (devS ls i d Sw S) := by
  unfold devS
  by_cases h2 : d.kind = 2
  · rw [if_pos h2, if_pos h2]; exact rtIn_mono h i _ _ hw hS 4
  rw [if_neg h2, if_neg h2]
  by_cases h3 : d.kind = 3
  · rw [if_pos h3, if_pos h3]; exact fire_mono h i _ hw hS
  rw [if_neg h3, if_neg h3]
  by_cases h4 : d.kind = 4
  · rw [if_pos h4, if_pos h4]; exact nat_mono h i _ _ hw hS
  rw [if_neg h4, if_neg h4]
  by_cases h5 : d.kind = 5
  · rw [if_pos h5, if_pos h5]; exact bal_mono h i _ _ hw hS
  rw [if_neg h5, if_neg h5]
  exact hS
theorem next_mono (h : SubL ls' ls) (ds : List Dev) (hw : LeS Sw' Sw) (hS : LeS S' S) : ∀ k, LeS (nextTo ds ls' Sw' S' k) (nextTo ds ls Sw S k)
  | 0 => hS
  | k + 1 => by
    simp only [nextTo]
    split
    · exact dev_mono h k _ hw (next_mono h ds hw hS k)
    · exact next_mono h ds hw hS k
theorem first_mono (h : SubL ls' ls) (ds : List Dev) (hS : LeS S' S) : ∀ k, LeS (firstTo ds ls' S' k) (firstTo ds ls S k)
  | 0 => hS
  | k + 1 => by
    simp only [firstTo]
    split
    · unfold hostS
      split
      · exact send_mono h _ (LeF.refl _) (first_mono h ds hS k)
      · exact first_mono h ds hS k
    · exact first_mono h ds hS k
end
theorem round_mono {ls' ls : List LinkV} (h : SubL ls' ls) (ds : List Dev) : ∀ k, LeS (roundS ds ls' k) (roundS ds ls k)
  | 0 => first_mono h ds (LeS.refl _) _
  | k + 1 => next_mono h ds (round_mono h ds k) (round_mono h ds k) _
theorem round_up (ds : List Dev) (ls : List LinkV) {j k : Nat} (h : j ≤ k) : LeS (roundS ds ls j) (roundS ds ls k) := by
  induction h with
  | refl => exact LeS.refl _
  | step _ ih => exact ih.trans (le_round ds ls _)
theorem round_stays (ds : List Dev) (ls : List LinkV) {K : Nat} (h : roundS ds ls (K + 1) = roundS ds ls K) : ∀ k, K ≤ k → roundS ds ls k = roundS ds ls K := by
  intro k hk
  induction hk with
  | refl => rfl
  | step hk ih =>
    rename_i m
    show nextTo ds ls (roundS ds ls m) (roundS ds ls m) ds.length = roundS ds ls K
    rw [ih]
    exact h
theorem round_below (ds : List Dev) (ls : List LinkV) {K : Nat} (h : roundS ds ls (K + 1) = roundS ds ls K) (k : Nat) : LeS (roundS ds ls k) (roundS ds ls K) := by
  rcases Nat.le_total k K with hk | hk
  · exact round_up ds ls hk
  · rw [round_stays ds ls h k hk]; exact LeS.refl _

theorem peer_dom {ls : List LinkV} {x y : Pl} (h : peerF ls x = some y) : x ∈ endsOf ls := by
  induction ls with
  | nil => simp [peerF] at h
  | cons l ls ih =>
    simp only [peerF] at h
    rw [mem_endsOf]
    by_cases h1 : eqP x l.e1 = true
    · exact ⟨l, by simp, .inl ((eqP_iff _ _).1 h1)⟩
    · rw [if_neg h1] at h
      by_cases h2 : eqP x l.e2 = true
      · exact ⟨l, by simp, .inr ((eqP_iff _ _).1 h2)⟩
      · rw [if_neg h2] at h
        obtain ⟨l', hl, he⟩ := mem_endsOf.1 (ih h)
        exact ⟨l', by simp [hl], he⟩
theorem SubL.filter {ls : List LinkV} (p : LinkV → Bool) (hn : (endsOf ls).Nodup) : SubL (ls.filter p) ls := by
  induction ls with
  | nil => exact fun x y h => h
  | cons l ls ih =>
    have e : endsOf (l :: ls) = [l.e1, l.e2] ++ endsOf ls := rfl
    rw [e, List.nodup_append] at hn
    intro x y h
    have hsub : ∀ z, z ∈ endsOf (ls.filter p) → z ∈ endsOf ls := fun z hz => by
      rw [mem_endsOf] at hz ⊢
      obtain ⟨l', h1, h2⟩ := hz
      exact ⟨l', (List.mem_filter.1 h1).1, h2⟩
    by_cases hp : p l = true
    · rw [List.filter_cons_of_pos hp] at h
      simp only [peerF] at h ⊢
      by_cases h1 : eqP x l.e1 = true
      · rw [if_pos h1] at h ⊢; exact h
      · rw [if_neg h1] at h ⊢
        by_cases h2 : eqP x l.e2 = true
        · rw [if_pos h2] at h ⊢; exact h
        · rw [if_neg h2] at h ⊢; exact ih hn.2.1 x y h
    · rw [List.filter_cons_of_neg hp] at h
      have hx : x ∈ endsOf ls := by
        have hx' := ih hn.2.1 x y h
        exact peer_dom hx'
      have h1 : ¬ eqP x l.e1 = true := fun e => hn.2.2 l.e1 (by simp) x hx ((eqP_iff _ _).1 e).symm
      have h2 : ¬ eqP x l.e2 = true := fun e => hn.2.2 l.e2 (by simp) x hx ((eqP_iff _ _).1 e).symm
      simp only [peerF]
      rw [if_neg h1, if_neg h2]
      exact ih hn.2.1 x y h
end Go.Proofs.Ytklbdfgblebniaa

set_option linter.unusedVariables false
set_option linter.unusedSimpArgs false
namespace Go.Proofs.Ytklbdfgblebniaa
open Go.RowKit Go.Maps

def BoxV (w : World) (N : Nat) (vs : Array Value) : Prop := (∀ (j : Nat) (v : Value), vs[j]? = some v → w.cell? ⟨N, j, none⟩ = some v) ∧ ∀ o, w.frozen? ⟨N, o, none⟩ = false
theorem BoxV.of_block {w : World} {N : Nat} {vs : Array Value} {t : TypeId} (h : w.heap[N]? = some (.cells vs t)) : BoxV w N vs :=
  ⟨fun j v hv => by rw [cell_of_row _ _ _ _ _ _ h]; exact hv, fun o => by unfold World.frozen?; simp only [h]; simp⟩
theorem BoxV.new (w : World) (vs : Array Value) (t : TypeId) : BoxV (w.alloc (.cells vs t)) w.heap.size vs := BoxV.of_block (heap_alloc_new w _)
theorem boxesB : ∀ (l : List (Array Value × TypeId)) (W : World) (i : Nat) c t, l[i]? = some (c, t) → (l.foldl (fun w x => w.alloc (.cells x.1 x.2)) W).heap[W.heap.size + i]? = some (.cells c t) := by
  intro l
  induction l with
  | nil => intro W i c t h; simp at h
  | cons x l ih =>
    intro W i c t h
    have hz : (W.alloc (.cells x.1 x.2)).heap.size = W.heap.size + 1 := by simp
    simp only [List.foldl_cons]
    cases i with
    | zero =>
      cases h
      obtain ⟨_, hb, _⟩ := boxesL l (W.alloc (.cells c t)) (Below.refl _ _)
      rw [hz] at hb
      rw [Nat.add_zero, hb.block _ (Nat.lt_succ_self _)]
      exact heap_alloc_new W _
    | succ i =>
      have := ih (W.alloc (.cells x.1 x.2)) i c t (by simpa using h)
      rw [hz] at this
      rw [show W.heap.size + (i + 1) = W.heap.size + 1 + i by omega]
      exact this
theorem boxesV (l : List (Array Value × TypeId)) (W : World) {W' : World} {B : Nat} (hb : Below B (l.foldl (fun w x => w.alloc (.cells x.1 x.2)) W) W') :
    (∀ (i : Nat) c t, l[i]? = some (c, t) → W.heap.size + i < B → BoxV W' (W.heap.size + i) c) ∧ (W.heap.size ≤ B → Below W.heap.size W W') := by
  refine ⟨fun i c t hi hB => BoxV.of_block (t := t) ((hb.block _ hB).trans (boxesB l W i c t hi)), fun hB => ?_⟩
  obtain ⟨_, h2, _⟩ := boxesL l W (Below.refl _ _)
  exact h2.trans (hb.mono hB)

end Go.Proofs.Ytklbdfgblebniaa
