/- AclFirst: behind a rule for all nothing is looked at; with a rule ahead what it matches is as it says, and nothing else turns. For arguments that hold at most 1048576 values. -/
import Derived.Test.YtoanimmlpfchjaaRight
import Derived.Test.YtoanimmlpfchjaaLets
import Derived.Test.YtoanimmlpfchjaaClone
import Derived.Deep.RegionWith
set_option linter.unusedVariables false
set_option linter.unusedSimpArgs false
namespace Go.Proofs.Ytoanimmlpfchjaa
open Go.ChangeShapes Go.WideShapes Go.ChangeAt Go.RowKit

def RuleBox (w : World) (b : Nat) (r : RuleV) : Prop :=
  w.cell? ⟨b, 0, none⟩ = some (.bool r.permit) ∧ w.cell? ⟨b, 1, none⟩ = some (.int .u16 r.m.src) ∧ w.cell? ⟨b, 2, none⟩ = some (.int .u16 r.m.dst) ∧
    w.cell? ⟨b, 3, none⟩ = some (.int .u8 r.m.sport) ∧ w.cell? ⟨b, 4, none⟩ = some (.int .u8 r.m.dport)
theorem RuleBox.below {w w' : World} {B b : Nat} {r : RuleV} (h : RuleBox w b r) (hB : Below B w w') (hb : b < B) : RuleBox w' b r := by
  unfold RuleBox at *
  have e : ∀ o, w'.cell? ⟨b, o, none⟩ = w.cell? ⟨b, o, none⟩ := fun o => hB.cell (p := ⟨b, o, none⟩) hb
  rw [e, e, e, e, e]
  exact h

theorem ownsRow_below {w w' : World} {base e s n : Nat} {v : Value} {xs : List Value} (h : w.ownsRow base e s v n xs) (hb : Below w.heap.size w w') : w'.ownsRow base e s v n xs :=
  h.kept (row := none) ⟨hb.os, hb.tape, hb.output, hb.size, fun k hk _ => hb.block k hk⟩ (by cases hv : v.ownBlock <;> simp)

theorem rules_lit {w : World} {r : RuleV} (hr : r.ok) {cs : Array Value} (hcs : cs.toList = r.cells) : RulesAt (w.alloc (.cells cs 35)) (w.heap.size + 1) (some ⟨w.heap.size, 0, none⟩) 1 [r] := by
  refine ⟨rfl, fun x hx => by simp at hx; subst hx; exact hr, fun _ => ⟨w.heap.size, 0, rfl, by omega, fun k x hk => ?_⟩⟩
  have hk0 : k = 0 := by have := (List.getElem?_eq_some_iff.1 hk).1; simp at this; exact this
  subst hk0
  have : r = x := by simpa using hk
  subst this
  have e : ∀ j : Nat, (w.alloc (.cells cs 35)).cell? ⟨w.heap.size, j, none⟩ = r.cells[j]? := fun j => by
    rw [cell_of_row _ _ j cs 35 (0, 0) (heap_alloc_new w _), ← hcs]; simp
  exact ⟨e 0, e 1, e 2, e 3, e 4⟩

/-- What stands at each point of AclFirst's walk. -/
structure AF (W : World) (r : RuleV) (p : P4) (w : World) : Prop where
  hb : Below W.heap.size W w
  hs : W.heap.size + 2 ≤ w.heap.size
  rb : RuleBox w W.heap.size r
  pb : PackAt w (W.heap.size + 1) p
theorem AF.step {W w w' : World} {r : RuleV} {p : P4} {B : Nat} (h : AF W r p w) (hb : Below B w w') (hB : W.heap.size + 2 ≤ B) : AF W r p w' :=
  ⟨h.hb.trans (hb.mono (by omega)), Nat.le_trans h.hs hb.size, h.rb.below hb (by omega), h.pb.below hb (by omega)⟩
theorem AF.alloc {W w : World} {r : RuleV} {p : P4} (h : AF W r p w) (o : Obj) : AF W r p (w.alloc o) := h.step ((Below.refl _ _).alloc (Nat.le_refl _) _) h.hs

def allR (b : Bool) : RuleV := ⟨b, ⟨65535, 65535, 255, 255⟩⟩
theorem allR_ok (b : Bool) : (allR b).ok := ⟨Nat.lt_succ_self 65535, Nat.lt_succ_self 65535, Nat.lt_succ_self 255, Nat.lt_succ_self 255⟩
theorem zeroP_ok : P4.ok ⟨0, 0, 0, 0⟩ := by simp [P4.ok, i64ok]

theorem inB_right (p : P4) (h : rightB p = true) : inB ⟨65535, 65535, 255, 255⟩ p = true := by
  simp only [rightB, inR, Bool.and_eq_true, decide_eq_true_eq] at h
  have t : ∀ (n : Int) (k : Nat), 0 ≤ n → n < k → k ≤ 16 → hasB (2 ^ k - 1) n = true := fun n k h0 hk hk16 => by
    simp only [hasB, Bool.and_eq_true, decide_eq_true_eq, Nat.testBit_two_pow_sub_one]
    omega
  simp only [inB, Bool.and_eq_true]
  exact ⟨⟨⟨t _ 16 (by omega) (by omega) (by omega), t _ 16 (by omega) (by omega) (by omega)⟩, t _ 8 (by omega) (by omega) (by omega)⟩, t _ 8 (by omega) (by omega) (by omega)⟩

theorem lets_append (l m : List RuleV) (p : P4) : letsB (l ++ m) p = if (l.any fun r => inB r.m p) then letsB l p else letsB m p := by
  induction l with
  | nil => simp
  | cons a l ih =>
    by_cases h : inB a.m p = true
    · simp [letsB, h]
    · simp only [letsB] at ih
      simpa [letsB, h] using ih
theorem lets_ended (l more : List RuleV) (p : P4) (h : rightB p = true) : letsB (l ++ [allR false] ++ more) p = letsB l p := by
  rw [List.append_assoc, lets_append]
  cases ha : l.any fun r => inB r.m p
  · have e1 : letsB l p = false := lets_none (fun r hr => by simpa using (List.any_eq_false.1 ha) r hr)
    rw [e1]
    have := inB_right p h
    simp [letsB, allR, this]
  · simp
theorem lets_ahead (r : RuleV) (l : List RuleV) (p : P4) : letsB (r :: l) p = if inB r.m p then r.permit else letsB l p := by
  cases h : inB r.m p <;> simp [letsB, h]

theorem lets_is (l : List RuleV) (A : Option Addr) (n c : Nat) (p : P4) (W : World) (B : Bool) (hn : n ≤ 9223372036854775807) (hp : p.ok) (hl : RulesAt W W.heap.size A n l) (h : letsB l p = B) :
    Calls Try.prog 17 #[.slice A n c, .agg #[.int .i64 p.src, .int .i64 p.dst, .int .i64 p.sport, .int .i64 p.dport]] W fun e W' =>
      e = .returned (.bool B) ∧ Below W.heap.size W W' := h ▸ lets_walk l A n c p W hn hp hl
theorem right_is (p : P4) (W : World) (B : Bool) (h : rightB p = B) : Calls Try.prog 20 #[.agg #[.int .i64 p.src, .int .i64 p.dst, .int .i64 p.sport, .int .i64 p.dport]] W fun e W' => e = .returned (.bool B) ∧ Below W.heap.size W W' := h ▸ right_walk p W

set_option maxRecDepth 100000 in
set_option maxHeartbeats 4000000 in
theorem aclFirst_walk (l more : List RuleV) (A A' : Option Addr) (n c n' c' : Nat) (r : RuleV) (p : P4) (W : World) (hn : n ≤ 1048576) (hn' : n' ≤ 1048576) (hr : r.ok) (hp : p.ok)
    (hl : RulesAt W W.heap.size A n l) (hm : RulesAt W W.heap.size A' n' more) :
    Calls Try.prog 5 #[.slice A n c, .slice A' n' c', .agg #[.bool r.permit, .int .u16 r.m.src, .int .u16 r.m.dst, .int .u8 r.m.sport, .int .u8 r.m.dport], .agg #[.int .i64 p.src, .int .i64 p.dst, .int .i64 p.sport, .int .i64 p.dport]] W fun e W' =>
      e = .returned (.bool true) ∧ Below W.heap.size W W' := by
  obtain ⟨i0, hi0, hz0, hz1, hz2⟩ := info_parts Try.infoRule
  have HL := hide hl
  have HM := hide hm
  clear hl hm
  have H0 : Hid (AF W r p ((W.alloc (.cells #[.bool r.permit, .int .u16 r.m.src, .int .u16 r.m.dst, .int .u8 r.m.sport, .int .u8 r.m.dport] 35)).alloc (.cells #[.int .i64 p.src, .int .i64 p.dst, .int .i64 p.sport, .int .i64 p.dport] 29))) :=
    hide ⟨((Below.refl _ W).alloc (Nat.le_refl _) _).alloc (by simp) _, by simp, by simp [RuleBox], by simp [PackAt]⟩
  go_enter Try.func5, Try.ntmps5
  go_wp2_with fail
  refine (allRule_walk true _).mono ?_
  rintro e w1 ⟨rfl, hb1⟩
  have H1 := hide (H0.out.step hb1 H0.out.hs)
  clear H0 hb1
  go_wp2_with fail
  refine (lets_walk [allR true] _ 1 1 ⟨0, 0, 0, 0⟩ _ (by omega) zeroP_ok ((rules_lit (allR_ok true) rfl).below (Below.refl _ _) (by simp))).mono ?_
  rintro e w2 ⟨rfl, hb2⟩
  have hT : letsB [allR true] ⟨0, 0, 0, 0⟩ = true := by decide +kernel
  rw [hT]
  have H2 := hide ((H1.out.alloc _).step hb2 (H1.out.alloc _).hs)
  clear H1 hb2 hT
  obtain ⟨q0, q1, q2, q3⟩ := H2.out.pb
  go_wp2_with fail
  refine (lets_walk [] none 0 0 p _ (by omega) hp ⟨rfl, fun x hx => by simp at hx, fun h => absurd h (by omega)⟩).mono ?_
  rintro e w3 ⟨rfl, hb3⟩
  have hT : letsB [] p = false := rfl
  rw [hT]
  have H3 := hide (H2.out.step hb3 H2.out.hs)
  clear H2 hb3 hT q0 q1 q2 q3
  go_wp2_with fail
  refine (cloneRule_walk l A n c _ (by omega) ((HL.out.below H3.out.hb (Nat.le_trans (by omega) H3.out.hs)).sl)).mono ?_
  rintro e w4 ⟨v, rfl, hown, hb4⟩
  have H4 := hide (H3.out.step hb4 H3.out.hs)
  have HO := hide hown
  have hs3 : W.heap.size + 2 ≤ w3.heap.size := H3.out.hs
  have hs4 : w3.heap.size ≤ w4.heap.size := hb4.size
  clear H3 hb4 hown
  go_wp2_with fail
  refine (allRule_walk false _).mono ?_
  rintro e w5 ⟨rfl, hb5⟩
  have H5 := hide (H4.out.step hb5 H4.out.hs)
  have HO5 := hide (ownsRow_below HO.out hb5)
  have hs5 : w4.heap.size ≤ w5.heap.size := hb5.size
  clear H4 HO hb5
  have hlo := fun k hk => (HO5.out.lt k hk).1
  have HLO := hide hlo
  clear hlo
  go_wp2_with (first | (at_builtin; refine wpList_append_any _ rfl (.tmp 21) (.tmp 23) 33 rfl w3.heap.size 35 i0 _ 5 8 Try.underlying33 hi0 hz0 hz1 hz2 rfl (by omega) v n (l.flatMap RuleV.cells) rfl (HO5.out.alloc _) (w5.heap.size + 1) (some ⟨w5.heap.size, 0, none⟩) 1 1 ([allR false].flatMap RuleV.cells) rfl ((rules_lit (allR_ok false) rfl).sl.reads RuleV.len (by omega)) (flat_one RuleV.one _) (by simp only [maxLen]; omega) (by omega) (by simp; omega) ?_; intro v1 w6 hown6 hg6 hat6; have H6 := hide ((H5.out.alloc _).step ((Below.refl (W.heap.size + 2) _).grown hg6 (by simp; omega) (fun k hk => Nat.le_trans hs3 (HLO.out k hk))) (Nat.le_refl _))) | (at_builtin; refine wpList_append_any _ rfl (.tmp 24) (.tmp 25) 33 rfl w3.heap.size 35 i0 _ 5 8 Try.underlying33 hi0 hz0 hz1 hz2 rfl (by omega) v1 (n + 1) _ rfl hown6 W.heap.size A' n' c' (more.flatMap RuleV.cells) rfl ((HM.out.below H6.out.hb (Nat.le_refl _)).sl.reads RuleV.len (by omega)) (flat_one RuleV.one _) (by simp only [maxLen]; omega) (by omega) (by have := hg6.size; simp at this; omega) ?_; intro v2 w7 hown7 hg7 hat7))
  have H7 := hide (H6.out.step ((Below.refl (W.heap.size + 2) _).grown hg7 H6.out.hs (fun k hk => Nat.le_trans hs3 (hown6.lt k hk).1)) (Nat.le_refl _))
  obtain ⟨Av, cv, hv, hcv, hsl, _⟩ := SlAt.of_own (l := l ++ [allR false] ++ more) RuleV.len (by simpa [List.append_assoc] using hown7) (by have h1 := HL.out.1; have h2 := HM.out.1; simp; omega)
  rw [hv]
  have HS := hide (hsl.rules (fun x hx => by
    simp only [List.mem_append, List.mem_singleton] at hx
    rcases hx with (hx | rfl) | hx
    · exact HL.out.2.1 x hx
    · exact allR_ok _
    · exact HM.out.2.1 x hx))
  clear hv hsl hown7 hg7 hat7 hown6 hg6 hat6 H6 H5 HO5 HLO hs3 hs4 hs5
  have e2 := lets_ended l more p
  cases e1 : rightB p
  · have E1 := e1
    clear e1
    refine wp_region_abs (by kernel_rfl) (by kernel_rfl) ?_
    intro T hT g hg hgi
    have HT : Hid (∀ t, AF W r p (g t)) := hide (fun t => H7.out.step (hg t) H7.out.hs)
    have k0 := fun t => (HT.out t).pb.1
    have k1 := fun t => (HT.out t).pb.2.1
    have k2 := fun t => (HT.out t).pb.2.2.1
    have k3 := fun t => (HT.out t).pb.2.2.2
    repeat (go_big_quiet_step (first | (go_at_call 20; exact inAbs hg hgi (right_is p _ _ E1)) | (go_at_call_of 17 (Value.slice A n c); exact inAbs hg hgi (lets_is l A n c p _ _ (by omega) hp (HL.out.below (HT.out _).hb (by have := (HT.out ‹T›).hs; omega)) rfl)) | (go_at_call 17; exact inAbs hg hgi (lets_is (l ++ [allR false] ++ more) Av _ cv p _ (letsB l p) (by omega) hp (HS.out.below (hg _) (hg _).size) (e2 E1)))))
    refine wpQuiet_nil ?_
    intro _ hw'
    obtain ⟨t, rfl⟩ := hw'
    have H8 := hide (HT.out t)
    clear HT k0 k1 k2 k3 hg hgi H7 HS
    generalize g t = w8 at *
    obtain ⟨b0, b1, b2, b3, b4⟩ := H8.out.rb
    have hs8 : W.heap.size + 2 ≤ w8.heap.size := H8.out.hs
    go_wp2_with (at_builtin; refine wpList_append_any _ rfl (.tmp 39) (.tmp 40) 33 rfl w8.heap.size 35 i0 _ 5 8 Try.underlying33 hi0 hz0 hz1 hz2 rfl (by omega) (.slice (some ⟨w8.heap.size, 0, none⟩) 1 1) 1 _ rfl (World.ownsRow_lit w8 #[.bool r.permit, .int .u16 r.m.src, .int .u16 r.m.dst, .int .u8 r.m.sport, .int .u8 r.m.dport] 1 (Nat.le_refl _) (by decide) rfl) W.heap.size A n c (l.flatMap RuleV.cells) rfl ((HL.out.below ((H8.out.alloc _).hb) (Nat.le_refl _)).sl.reads RuleV.len (by omega)) (flat_one RuleV.one _) (by simp only [maxLen]; omega) (by omega) (by simp) ?_; intro v3 w9 hown9 hg9 hat9; clear b0 b1 b2 b3 b4; have H9 := hide ((H8.out.alloc _).step ((Below.refl (W.heap.size + 2) _).grown hg9 (by simp; omega) (fun k hk => by simp [Value.ownBlock] at hk; omega)) (Nat.le_refl _)); have c0 := H9.out.rb.1; have c1 := H9.out.rb.2.1; have c2 := H9.out.rb.2.2.1; have c3 := H9.out.rb.2.2.2.1; have c4 := H9.out.rb.2.2.2.2; have d0 := H9.out.pb.1; have d1 := H9.out.pb.2.1; have d2 := H9.out.pb.2.2.1; have d3 := H9.out.pb.2.2.2)
    refine (in_ofNat r.m p _ hr hp).mono ?_
    rintro e wA ⟨rfl, hbA⟩
    have HA := hide (H9.out.step hbA H9.out.hs)
    obtain ⟨A3, ca3, hv3, _, hsl3, _⟩ := SlAt.of_own (l := r :: l) RuleV.len (by simpa [RuleV.cells] using hown9) (by have h1 := HL.out.1; simp; omega)
    rw [hv3]
    have HS3 := hide ((hsl3.rules (fun x hx => by
      rcases List.mem_cons.1 hx with rfl | hx
      · exact hr
      · exact HL.out.2.1 x hx)).below hbA hbA.size)
    clear hv3 hsl3 hown9 hg9 hat9 hbA H9 H8 hs8 c0 c1 c2 c3 c4 d0 d1 d2 d3
    have e4 := lets_ahead r l p
    cases e3 : inB r.m p
    · rw [e3] at e4
      have E4 : letsB (r :: l) p = letsB l p := e4
      clear e3 e4
      have HE4 := hide E4
      clear E4
      go_wp2_with fail
      refine wp_region_abs (by kernel_rfl) (by kernel_rfl) ?_
      intro T hT g hg hgi
      have HT : Hid (∀ t, AF W r p (g t)) := hide (fun t => HA.out.step (hg t) HA.out.hs)
      have k0 := fun t => (HT.out t).pb.1
      have k1 := fun t => (HT.out t).pb.2.1
      have k2 := fun t => (HT.out t).pb.2.2.1
      have k3 := fun t => (HT.out t).pb.2.2.2
      have k4 := fun t => (HT.out t).rb.1
      repeat (go_big_quiet_step (first | (go_at_call_of 17 (Value.slice A n c); exact inAbs hg hgi (lets_is l A n c p _ _ (by omega) hp (HL.out.below (HT.out _).hb (by have := (HT.out ‹T›).hs; omega)) rfl)) | (go_at_call 17; exact inAbs hg hgi (lets_is (r :: l) A3 _ ca3 p _ _ (by omega) hp (HS3.out.below (hg _) (hg _).size) HE4.out))))
      refine wpQuiet_nil ?_
      intro _ hw'
      obtain ⟨t, rfl⟩ := hw'
      go_wp2
      go_ret
      exact ⟨by simp, (HT.out t).hb⟩
    · rw [e3] at e4
      have E4 : letsB (r :: l) p = r.permit := e4
      clear e3 e4
      have HE4 := hide E4
      clear E4
      go_wp2_with fail
      refine wp_region_abs (by kernel_rfl) (by kernel_rfl) ?_
      intro T hT g hg hgi
      have HT : Hid (∀ t, AF W r p (g t)) := hide (fun t => HA.out.step (hg t) HA.out.hs)
      have k0 := fun t => (HT.out t).pb.1
      have k1 := fun t => (HT.out t).pb.2.1
      have k2 := fun t => (HT.out t).pb.2.2.1
      have k3 := fun t => (HT.out t).pb.2.2.2
      have k4 := fun t => (HT.out t).rb.1
      repeat (go_big_quiet_step (first | (go_at_call_of 17 (Value.slice A n c); exact inAbs hg hgi (lets_is l A n c p _ _ (by omega) hp (HL.out.below (HT.out _).hb (by have := (HT.out ‹T›).hs; omega)) rfl)) | (go_at_call 17; exact inAbs hg hgi (lets_is (r :: l) A3 _ ca3 p _ _ (by omega) hp (HS3.out.below (hg _) (hg _).size) HE4.out))))
      refine wpQuiet_nil ?_
      intro _ hw'
      obtain ⟨t, rfl⟩ := hw'
      go_wp2
      go_ret
      exact ⟨by simp, (HT.out t).hb⟩
  · have E1 := e1
    clear e1
    refine wp_region_abs (by kernel_rfl) (by kernel_rfl) ?_
    intro T hT g hg hgi
    have HT : Hid (∀ t, AF W r p (g t)) := hide (fun t => H7.out.step (hg t) H7.out.hs)
    have k0 := fun t => (HT.out t).pb.1
    have k1 := fun t => (HT.out t).pb.2.1
    have k2 := fun t => (HT.out t).pb.2.2.1
    have k3 := fun t => (HT.out t).pb.2.2.2
    repeat (go_big_quiet_step (first | (go_at_call 20; exact inAbs hg hgi (right_is p _ _ E1)) | (go_at_call_of 17 (Value.slice A n c); exact inAbs hg hgi (lets_is l A n c p _ _ (by omega) hp (HL.out.below (HT.out _).hb (by have := (HT.out ‹T›).hs; omega)) rfl)) | (go_at_call 17; exact inAbs hg hgi (lets_is (l ++ [allR false] ++ more) Av _ cv p _ (letsB l p) (by omega) hp (HS.out.below (hg _) (hg _).size) (e2 E1)))))
    refine wpQuiet_nil ?_
    intro _ hw'
    obtain ⟨t, rfl⟩ := hw'
    have H8 := hide (HT.out t)
    clear HT k0 k1 k2 k3 hg hgi H7 HS
    generalize g t = w8 at *
    obtain ⟨b0, b1, b2, b3, b4⟩ := H8.out.rb
    have hs8 : W.heap.size + 2 ≤ w8.heap.size := H8.out.hs
    go_wp2_with (at_builtin; refine wpList_append_any _ rfl (.tmp 39) (.tmp 40) 33 rfl w8.heap.size 35 i0 _ 5 8 Try.underlying33 hi0 hz0 hz1 hz2 rfl (by omega) (.slice (some ⟨w8.heap.size, 0, none⟩) 1 1) 1 _ rfl (World.ownsRow_lit w8 #[.bool r.permit, .int .u16 r.m.src, .int .u16 r.m.dst, .int .u8 r.m.sport, .int .u8 r.m.dport] 1 (Nat.le_refl _) (by decide) rfl) W.heap.size A n c (l.flatMap RuleV.cells) rfl ((HL.out.below ((H8.out.alloc _).hb) (Nat.le_refl _)).sl.reads RuleV.len (by omega)) (flat_one RuleV.one _) (by simp only [maxLen]; omega) (by omega) (by simp) ?_; intro v3 w9 hown9 hg9 hat9; clear b0 b1 b2 b3 b4; have H9 := hide ((H8.out.alloc _).step ((Below.refl (W.heap.size + 2) _).grown hg9 (by simp; omega) (fun k hk => by simp [Value.ownBlock] at hk; omega)) (Nat.le_refl _)); have c0 := H9.out.rb.1; have c1 := H9.out.rb.2.1; have c2 := H9.out.rb.2.2.1; have c3 := H9.out.rb.2.2.2.1; have c4 := H9.out.rb.2.2.2.2; have d0 := H9.out.pb.1; have d1 := H9.out.pb.2.1; have d2 := H9.out.pb.2.2.1; have d3 := H9.out.pb.2.2.2)
    refine (in_ofNat r.m p _ hr hp).mono ?_
    rintro e wA ⟨rfl, hbA⟩
    have HA := hide (H9.out.step hbA H9.out.hs)
    obtain ⟨A3, ca3, hv3, _, hsl3, _⟩ := SlAt.of_own (l := r :: l) RuleV.len (by simpa [RuleV.cells] using hown9) (by have h1 := HL.out.1; simp; omega)
    rw [hv3]
    have HS3 := hide ((hsl3.rules (fun x hx => by
      rcases List.mem_cons.1 hx with rfl | hx
      · exact hr
      · exact HL.out.2.1 x hx)).below hbA hbA.size)
    clear hv3 hsl3 hown9 hg9 hat9 hbA H9 H8 hs8 c0 c1 c2 c3 c4 d0 d1 d2 d3
    have e4 := lets_ahead r l p
    cases e3 : inB r.m p
    · rw [e3] at e4
      have E4 : letsB (r :: l) p = letsB l p := e4
      clear e3 e4
      have HE4 := hide E4
      clear E4
      go_wp2_with fail
      refine wp_region_abs (by kernel_rfl) (by kernel_rfl) ?_
      intro T hT g hg hgi
      have HT : Hid (∀ t, AF W r p (g t)) := hide (fun t => HA.out.step (hg t) HA.out.hs)
      have k0 := fun t => (HT.out t).pb.1
      have k1 := fun t => (HT.out t).pb.2.1
      have k2 := fun t => (HT.out t).pb.2.2.1
      have k3 := fun t => (HT.out t).pb.2.2.2
      have k4 := fun t => (HT.out t).rb.1
      repeat (go_big_quiet_step (first | (go_at_call_of 17 (Value.slice A n c); exact inAbs hg hgi (lets_is l A n c p _ _ (by omega) hp (HL.out.below (HT.out _).hb (by have := (HT.out ‹T›).hs; omega)) rfl)) | (go_at_call 17; exact inAbs hg hgi (lets_is (r :: l) A3 _ ca3 p _ _ (by omega) hp (HS3.out.below (hg _) (hg _).size) HE4.out))))
      refine wpQuiet_nil ?_
      intro _ hw'
      obtain ⟨t, rfl⟩ := hw'
      go_wp2
      go_ret
      exact ⟨by simp, (HT.out t).hb⟩
    · rw [e3] at e4
      have E4 : letsB (r :: l) p = r.permit := e4
      clear e3 e4
      have HE4 := hide E4
      clear E4
      go_wp2_with fail
      refine wp_region_abs (by kernel_rfl) (by kernel_rfl) ?_
      intro T hT g hg hgi
      have HT : Hid (∀ t, AF W r p (g t)) := hide (fun t => HA.out.step (hg t) HA.out.hs)
      have k0 := fun t => (HT.out t).pb.1
      have k1 := fun t => (HT.out t).pb.2.1
      have k2 := fun t => (HT.out t).pb.2.2.1
      have k3 := fun t => (HT.out t).pb.2.2.2
      have k4 := fun t => (HT.out t).rb.1
      repeat (go_big_quiet_step (first | (go_at_call_of 17 (Value.slice A n c); exact inAbs hg hgi (lets_is l A n c p _ _ (by omega) hp (HL.out.below (HT.out _).hb (by have := (HT.out ‹T›).hs; omega)) rfl)) | (go_at_call 17; exact inAbs hg hgi (lets_is (r :: l) A3 _ ca3 p _ _ (by omega) hp (HS3.out.below (hg _) (hg _).size) HE4.out))))
      refine wpQuiet_nil ?_
      intro _ hw'
      obtain ⟨t, rfl⟩ := hw'
      go_wp2
      go_ret
      exact ⟨by simp, (HT.out t).hb⟩
end Go.Proofs.Ytoanimmlpfchjaa
