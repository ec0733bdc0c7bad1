/- G3: Built Build Eval Held BuildLaw BuildRoom BuildBad MatchBuilds BS. -/
import Derived.Test.YtohbafigjpoijaaDoorG2
import Derived.Test.YtohbafigjpoijaaDoorG1
import Derived.WalkLawsBesides
import Derived.Test.YtohbafigjpoijaaDoorG4
/- match.built -/
set_option linter.unusedVariables false
set_option linter.unusedSimpArgs false
namespace Go.Proofs.YtohbafigjpoijaaDoor
open Go.RowKit Go.Maps Bdd

/-- The function of a part's numbers, from variable v on, d variables left. -/
def bitF (set : Nat) : Nat → Nat → Nat → Bdd.Fn
  | 0, _, n => fun _ => set.testBit n
  | d + 1, v, n => iteF (fun x => x v) (bitF set d (v + 1) (n * 2 + 1)) (bitF set d (v + 1) (n * 2))

theorem bitF_indep (set : Nat) : ∀ (d v n : Nat) (x y : Asg), (∀ u, v ≤ u → x u = y u) → bitF set d v n x = bitF set d v n y := by
  intro d
  induction d with
  | zero => intro v n x y _; rfl
  | succ d ih =>
    intro v n x y h
    simp only [bitF, iteF, h v (Nat.le_refl _), ih (v + 1) _ x y (fun u hu => h u (by omega))]

theorem bitF_upd (set d v n : Nat) (b : Bool) : (fun x => bitF set (d + 1) v n (upd x v b)) = bitF set d (v + 1) (if b then n * 2 + 1 else n * 2) := by
  funext x
  have e : ∀ m, bitF set d (v + 1) m (upd x v b) = bitF set d (v + 1) m x := fun m => bitF_indep set d (v + 1) m _ _ (fun u hu => by
    have : u ≠ v := by omega
    simp [upd, this])
  simp only [bitF, iteF, e]
  cases b <;> simp [upd]

theorem bitF_cof (set d v n : Nat) (b : Bool) : Cof (bitF set (d + 1) v n) (bitF set d (v + 1) (if b then n * 2 + 1 else n * 2)) := by
  rw [← bitF_upd set d v n b]
  exact Cof.upd (fun x y h => bitF_indep set (d + 1) v n x y h) b

theorem bit_val (set n : Nat) (hs : set < 65536) : wrap64 (Go.bits BinOp.and IntKind.u16 ((set : Int) / 2 ^ n) 1) = ((if set.testBit n then 1 else 0 : Nat) : Int) := by
  rw [div_pow_cast]
  have h := u16_and (set / 2 ^ n) 1 (Nat.lt_of_le_of_lt (Nat.div_le_self _ _) hs) (by omega)
  have e1 : ((1 : Nat) : Int) = 1 := rfl
  rw [e1] at h
  rw [h]
  have := testBit_div set n
  rw [Nat.and_one_is_mod] at this ⊢
  rcases Nat.mod_two_eq_zero_or_one (set / 2 ^ n) with h0 | h0
  · rw [h0] at this ⊢
    rw [← this]; decide +kernel
  · rw [h0] at this ⊢
    rw [← this]; decide +kernel

end Go.Proofs.YtohbafigjpoijaaDoor

/- match.Build -/
set_option linter.unusedVariables false
set_option linter.unusedSimpArgs false
namespace Go.Proofs.YtohbafigjpoijaaDoor
open Go.RowKit Go.Maps Bdd

def partBox (s d p q : Nat) : Array Value := #[.int .u16 s, .int .i64 4, .int .i64 0, .int .u16 p, .int .i64 3, .int .i64 8, .int .u16 d, .int .i64 4, .int .i64 4, .int .u16 q, .int .i64 3, .int .i64 11]

set_option maxRecDepth 100000 in
set_option maxHeartbeats 4000000 in
theorem parts_walk (w : World) (s d p q : Nat) (hs : s < 65536) (hd : d < 65536) (hp : p < 256) (hq : q < 256) :
    Calls Tryd.prog 49 #[.agg #[.int .u16 s, .int .u16 d, .int .u8 p, .int .u8 q]] w fun e W' => e = .returned (.slice (some ⟨w.heap.size + 1, 0, none⟩) 4 4) ∧ ∃ o0, W' = (w.alloc o0).alloc (.cells (partBox s d p q) 90) := by
  go_enter Tryd.func49, Tryd.ntmps49
  go_wp2
  go_ret
  exact ⟨rfl, _, rfl⟩

/-- What is built of a match. -/
structure PartV where
  set : Nat
  bits : Nat
  first : Nat
def partL (s d p q : Nat) : List PartV := [⟨s, 4, 0⟩, ⟨p, 3, 8⟩, ⟨d, 4, 4⟩, ⟨q, 3, 11⟩]
def PartV.fn (x : PartV) : Bdd.Fn := bitF x.set x.bits x.first 0
def outs (l : List PartV) : Bdd.Fn := l.foldl (fun F x => iteF F x.fn (fun _ => false)) (fun _ => true)
theorem outs_snoc {l : List PartV} {k : Nat} {x : PartV} (h : l[k]? = some x) : outs (l.take (k + 1)) = iteF (outs (l.take k)) x.fn (fun _ => false) := by
  rw [List.take_add_one, h]; simp [outs]

/-- What is new when it is built. -/
def NewB (l : List PartV) (G : Bdd.Fn) : Prop := (∃ u, Cof (fun x : Asg => x u) G) ∨ (∃ x ∈ l, Cof x.fn G) ∨ ∃ k, k < l.length ∧ Cof (outs (l.take (k + 1))) G

theorem part_get (s d p q k : Nat) (hs : s < 65536) (hd : d < 65536) (hp : p < 256) (hq : q < 256) (hk : k < 4) : ∃ x : PartV, (partL s d p q)[k]? = some x ∧ x.set < 65536 ∧ x.bits ≤ 4 ∧ x.first + x.bits ≤ 14 ∧
    (partBox s d p q)[k * 3]? = some (.int .u16 x.set) ∧ (partBox s d p q)[k * 3 + 1]? = some (.int .i64 x.bits) ∧ (partBox s d p q)[k * 3 + 2]? = some (.int .i64 x.first) := by
  match k, hk with
  | 0, _ => exact ⟨_, rfl, hs, (by show 4 ≤ 4; omega), (by show 0 + 4 ≤ 14; omega), rfl, rfl, rfl⟩
  | 1, _ => exact ⟨_, rfl, (by show p < _; omega), (by show 3 ≤ 4; omega), (by show 8 + 3 ≤ 14; omega), rfl, rfl, rfl⟩
  | 2, _ => exact ⟨_, rfl, hd, (by show 4 ≤ 4; omega), (by show 4 + 4 ≤ 14; omega), rfl, rfl, rfl⟩
  | 3, _ => exact ⟨_, rfl, (by show q < _; omega), (by show 3 ≤ 4; omega), (by show 11 + 3 ≤ 14; omega), rfl, rfl, rfl⟩

/-- What stands ahead of round k. -/
def AtK (l : List PartV) (A : St) (k r : Nat) (A2 : St) : Prop := Ext A A2 ∧ A2.full = false ∧ (∀ j, A.len ≤ j → j < A2.len → NewB l (den A2.ns j)) ∧ r < A2.ns.length ∧ den A2.ns r = outs (l.take k)

end Go.Proofs.YtohbafigjpoijaaDoor

/- The arena's Eval. -/
set_option linter.unusedVariables false
set_option linter.unusedSimpArgs false
namespace Go.Proofs.YtohbafigjpoijaaDoor
open Go.RowKit Go.Maps Bdd

theorem wrap_pow (v : Nat) (h : v ≤ 16) : wrap64 ((2 : Int) ^ v) = 2 ^ v := by
  have : ∀ i : Fin 17, wrap64 ((2 : Int) ^ i.val) = 2 ^ i.val := by decide +kernel
  exact this ⟨v, by omega⟩

end Go.Proofs.YtohbafigjpoijaaDoor

/- wireref.Packet, Has; wirelaw.held -/
set_option linter.unusedVariables false
set_option linter.unusedSimpArgs false
namespace Go.Proofs.YtohbafigjpoijaaDoor
open Go.RowKit

def packVal (c : Nat) : Value := .agg #[.int .i64 ((c / 1024 : Nat) : Int), .int .i64 ((c / 64 % 16 : Nat) : Int), .int .i64 ((c / 8 % 8 : Nat) : Int), .int .i64 ((c % 8 : Nat) : Int)]

set_option maxRecDepth 100000 in
theorem packet_walk (w : World) (c : Nat) (hc : c < 16384) :
    Calls Tryd.prog 13 #[.int .i64 c] w fun e W' => e = .returned (packVal c) ∧ Below w.heap.size w W' := by
  go_enter Tryd.func13, Tryd.ntmps13
  go_wp2
  refine bodyPost_ret (results_cell_row rfl _ _ w.heap.size 23 _ (0, 0) _ rfl (heap_alloc_new w _) Tryd.underlying23 rfl (by kernel_rfl)) rfl ?_
  have e1 : ((c / 1024 : Nat) : Int) = (c : Int) / 1024 := by omega
  have e2 : ((c / 64 % 16 : Nat) : Int) = (c : Int) / 64 % 16 := by omega
  have e3 : ((c / 8 % 8 : Nat) : Int) = (c : Int) / 8 % 8 := by omega
  have e4 : ((c % 8 : Nat) : Int) = (c : Int) % 8 := by omega
  exact ⟨by rw [packVal, e1, e2, e3, e4], (Below.refl _ _).alloc (Nat.le_refl _) _⟩

theorem has_bit (set n : Nat) : (((set : Int) / 2 ^ n).tmod 2 == 1) = set.testBit n := by
  rw [div_pow_cast]
  have h := testBit_div set n
  rw [Nat.and_one_is_mod] at h
  rw [← h]
  have e : ((set / 2 ^ n : Nat) : Int).tmod 2 = ((set / 2 ^ n % 2 : Nat) : Int) := by
    generalize set / 2 ^ n = m
    rw [Int.tmod_eq_emod_of_nonneg (by omega)]; omega
  rw [e]
  rcases Nat.mod_two_eq_zero_or_one (set / 2 ^ n) with h0 | h0 <;> rw [h0] <;> rfl

set_option maxRecDepth 100000 in
theorem has_walk (w : World) (set n : Nat) (hs : set < 65536) (hn : n < 16) (B : Bool) (hB : set.testBit n = B) :
    Calls Tryd.prog 54 #[.int .i64 set, .int .i64 n] w fun e W' => e = .returned (.bool B) ∧ w = W' := by
  have h1 : inR n 0 15 = true := by simp [inR]; omega
  have hb := hide ((has_bit set n).trans hB)
  clear hB
  go_enter Tryd.func54, Tryd.ntmps54
  go_wp2_with fail
  refine (inR_walk _ _ _ _).mono ?_
  rintro e w' ⟨rfl, rfl⟩
  rw [h1]
  go_wp2
  go_ret
  refine ⟨?_, rfl⟩
  rw [← hb.out]; rfl

def hasAllB (s d p q a b x y : Nat) : Bool := s.testBit a && d.testBit b && p.testBit x && q.testBit y

set_option maxRecDepth 100000 in
set_option maxHeartbeats 4000000 in
theorem hasAll_walk (w : World) (s d p q a b x y : Nat) (hs : s < 65536) (hd : d < 65536) (hp : p < 256) (hq : q < 256) (ha : a < 16) (hb : b < 16) (hx : x < 16) (hy : y < 16) :
    Calls Tryd.prog 25 #[.agg #[.int .u16 s, .int .u16 d, .int .u8 p, .int .u8 q], .agg #[.int .i64 a, .int .i64 b, .int .i64 x, .int .i64 y]] w fun e W' => e = .returned (.bool (hasAllB s d p q a b x y)) ∧ Below w.heap.size w W' := by
  have HB : Hid (∀ o0 o1, Below w.heap.size w ((w.alloc o0).alloc o1)) := hide (fun o0 o1 => ((Below.refl _ _).alloc (Nat.le_refl _) o0).alloc (by simp) o1)
  cases e1 : s.testBit a
  · go_enter Tryd.func25, Tryd.ntmps25
    go_wp2_with (go_at_call 54; refine (has_walk _ _ _ (by omega) (by omega) _ rfl).mono ?_; rintro e w' ⟨rfl, rfl⟩)
    go_ret
    exact ⟨by simp [hasAllB, *], HB.out _ _⟩
  cases e2 : d.testBit b
  · go_enter Tryd.func25, Tryd.ntmps25
    go_wp2_with (go_at_call 54; refine (has_walk _ _ _ (by omega) (by omega) _ rfl).mono ?_; rintro e w' ⟨rfl, rfl⟩)
    go_ret
    exact ⟨by simp [hasAllB, *], HB.out _ _⟩
  cases e3 : p.testBit x
  · go_enter Tryd.func25, Tryd.ntmps25
    go_wp2_with (go_at_call 54; refine (has_walk _ _ _ (by omega) (by omega) _ rfl).mono ?_; rintro e w' ⟨rfl, rfl⟩)
    go_ret
    exact ⟨by simp [hasAllB, *], HB.out _ _⟩
  cases e4 : q.testBit y
  · go_enter Tryd.func25, Tryd.ntmps25
    go_wp2_with (go_at_call 54; refine (has_walk _ _ _ (by omega) (by omega) _ rfl).mono ?_; rintro e w' ⟨rfl, rfl⟩)
    go_ret
    exact ⟨by simp [hasAllB, *], HB.out _ _⟩
  · go_enter Tryd.func25, Tryd.ntmps25
    go_wp2_with (go_at_call 54; refine (has_walk _ _ _ (by omega) (by omega) _ rfl).mono ?_; rintro e w' ⟨rfl, rfl⟩)
    go_ret
    exact ⟨by simp [hasAllB, *], HB.out _ _⟩
end Go.Proofs.YtohbafigjpoijaaDoor

/- What is built of a match holds of just its packets; how many nodes that takes. No program in sight. -/
set_option linter.unusedVariables false
namespace Go.Proofs.YtohbafigjpoijaaDoor
open Go.RowKit Bdd

def asgOf (c : Nat) : Asg := fun u => c.testBit (13 - u)

theorem tb (c i : Nat) : c.testBit i = decide (c / 2 ^ i % 2 = 1) := Nat.testBit_eq_decide_div_mod_eq

theorem fn_s (s c : Nat) (hc : c < 16384) : bitF s 4 0 0 (asgOf c) = s.testBit (c / 1024) := by
  have key : c / 1024 = 8 * (c / 8192 % 2) + 4 * (c / 4096 % 2) + 2 * (c / 2048 % 2) + c / 1024 % 2 := by omega
  rw [key]
  simp only [bitF, iteF, asgOf, tb]
  rcases Nat.mod_two_eq_zero_or_one (c / 8192) with h1 | h1 <;> rcases Nat.mod_two_eq_zero_or_one (c / 4096) with h2 | h2 <;> rcases Nat.mod_two_eq_zero_or_one (c / 2048) with h3 | h3 <;> rcases Nat.mod_two_eq_zero_or_one (c / 1024) with h4 | h4 <;> simp [h1, h2, h3, h4]

theorem fn_d (s c : Nat) (hc : c < 16384) : bitF s 4 4 0 (asgOf c) = s.testBit (c / 64 % 16) := by
  have key : c / 64 % 16 = 8 * (c / 512 % 2) + 4 * (c / 256 % 2) + 2 * (c / 128 % 2) + c / 64 % 2 := by omega
  rw [key]
  simp only [bitF, iteF, asgOf, tb]
  rcases Nat.mod_two_eq_zero_or_one (c / 512) with h1 | h1 <;> rcases Nat.mod_two_eq_zero_or_one (c / 256) with h2 | h2 <;> rcases Nat.mod_two_eq_zero_or_one (c / 128) with h3 | h3 <;> rcases Nat.mod_two_eq_zero_or_one (c / 64) with h4 | h4 <;> simp [h1, h2, h3, h4]

theorem fn_p (s c : Nat) (hc : c < 16384) : bitF s 3 8 0 (asgOf c) = s.testBit (c / 8 % 8) := by
  have key : c / 8 % 8 = 4 * (c / 32 % 2) + 2 * (c / 16 % 2) + c / 8 % 2 := by omega
  rw [key]
  simp only [bitF, iteF, asgOf, tb]
  rcases Nat.mod_two_eq_zero_or_one (c / 32) with h2 | h2 <;> rcases Nat.mod_two_eq_zero_or_one (c / 16) with h3 | h3 <;> rcases Nat.mod_two_eq_zero_or_one (c / 8) with h4 | h4 <;> simp [h2, h3, h4]

theorem fn_q (s c : Nat) (hc : c < 16384) : bitF s 3 11 0 (asgOf c) = s.testBit (c % 8) := by
  have key : c % 8 = 4 * (c / 4 % 2) + 2 * (c / 2 % 2) + c / 1 % 2 := by omega
  rw [key]
  simp only [bitF, iteF, asgOf, tb]
  rcases Nat.mod_two_eq_zero_or_one (c / 4) with h2 | h2 <;> rcases Nat.mod_two_eq_zero_or_one (c / 2) with h3 | h3 <;> rcases Nat.mod_two_eq_zero_or_one (c / 1) with h4 | h4 <;> simp_all

theorem outs_has (s d p q c : Nat) (hc : c < 16384) : outs (partL s d p q) (asgOf c) = hasAllB s d p q (c / 1024) (c / 64 % 16) (c / 8 % 8) (c % 8) := by
  have e1 := fn_s s c hc
  have e2 := fn_d d c hc
  have e3 := fn_p p c hc
  have e4 := fn_q q c hc
  simp only [outs, partL, List.foldl_cons, List.foldl_nil, iteF, PartV.fn, e1, e2, e3, e4, hasAllB]
  cases s.testBit (c / 1024) <;> cases d.testBit (c / 64 % 16) <;> cases p.testBit (c / 8 % 8) <;> cases q.testBit (c % 8) <;> rfl
end Go.Proofs.YtohbafigjpoijaaDoor

/- How many nodes a match takes at most. -/
set_option linter.unusedVariables false
namespace Go.Proofs.YtohbafigjpoijaaDoor
open Go.RowKit Bdd

theorem cof_var {u : Nat} {G : Bdd.Fn} (h : Cof (fun x : Asg => x u) G) (hG : ∃ x y, G x ≠ G y) : G = fun x => x u := by
  obtain ⟨k, s, rfl⟩ := h
  by_cases hu : u < k
  · simp [hu] at hG
  · funext x; simp [hu]

theorem bitF_below (set : Nat) : ∀ (d v n : Nat), Bdd.Below (v + d) (bitF set d v n) := by
  intro d
  induction d with
  | zero => intro v n x y _; rfl
  | succ d ih =>
    intro v n x y h
    simp only [bitF, iteF, h v (by omega), ih (v + 1) _ x y (fun u hu => h u (by omega))]

theorem iteF_below {K : Nat} {F G H : Bdd.Fn} (hF : Bdd.Below K F) (hG : Bdd.Below K G) (hH : Bdd.Below K H) : Bdd.Below K (iteF F G H) := fun x y h => by
  simp only [iteF, hF x y h, hG x y h, hH x y h]

def roomL (s d p q : Nat) : List Bdd.Fn := (List.range 14).map (fun u => fun x : Asg => x u) ++ (partsOf (bitF s 4 0 0) 4 ++ (partsOf (bitF p 3 8 0) 11 ++ (partsOf (bitF d 4 4 0) 8 ++ (partsOf (bitF q 3 11 0) 14 ++
  (partsOf (outs ((partL s d p q).take 1)) 4 ++ (partsOf (outs ((partL s d p q).take 2)) 11 ++ (partsOf (outs ((partL s d p q).take 3)) 11 ++ partsOf (outs ((partL s d p q).take 4)) 14)))))))

theorem roomL_length (s d p q : Nat) : (roomL s d p q).length = 39206 := by
  have h := partsOf_length
  have a1 := h (bitF s 4 0 0) 4
  have a2 := h (bitF p 3 8 0) 11
  have a3 := h (bitF d 4 4 0) 8
  have a4 := h (bitF q 3 11 0) 14
  have b1 := h (outs ((partL s d p q).take 1)) 4
  have b2 := h (outs ((partL s d p q).take 2)) 11
  have b3 := h (outs ((partL s d p q).take 3)) 11
  have b4 := h (outs ((partL s d p q).take 4)) 14
  simp only [roomL, List.length_append, List.length_map, List.length_range]
  omega

theorem outs_below (s d p q : Nat) : Bdd.Below 4 (outs ((partL s d p q).take 1)) ∧ Bdd.Below 11 (outs ((partL s d p q).take 2)) ∧ Bdd.Below 11 (outs ((partL s d p q).take 3)) ∧ Bdd.Below 14 (outs ((partL s d p q).take 4)) := by
  have c0 : ∀ K b, Bdd.Below K (fun _ => b) := fun K b => Bdd.Below.const b K
  have h1 : Bdd.Below 4 (outs ((partL s d p q).take 1)) := iteF_below (F := fun _ => true) (G := bitF s 4 0 0) (H := fun _ => false) (c0 _ _) (bitF_below s 4 0 0) (c0 _ _)
  have h2 : Bdd.Below 11 (outs ((partL s d p q).take 2)) := iteF_below (F := outs ((partL s d p q).take 1)) (G := bitF p 3 8 0) (H := fun _ => false) (h1.mono (by omega)) (bitF_below p 3 8 0) (c0 _ _)
  have h3 : Bdd.Below 11 (outs ((partL s d p q).take 3)) := iteF_below (F := outs ((partL s d p q).take 2)) (G := bitF d 4 4 0) (H := fun _ => false) h2 ((bitF_below d 4 4 0).mono (by omega)) (c0 _ _)
  have h4 : Bdd.Below 14 (outs ((partL s d p q).take 4)) := iteF_below (F := outs ((partL s d p q).take 3)) (G := bitF q 3 11 0) (H := fun _ => false) (h3.mono (by omega)) (bitF_below q 3 11 0) (c0 _ _)
  exact ⟨h1, h2, h3, h4⟩

theorem roomL_mem {s d p q : Nat} {G : Bdd.Fn} (h : NewB (partL s d p q) G) (hG : ∃ x y, G x ≠ G y) (hb : Bdd.Below 14 G) : G ∈ roomL s d p q := by
  obtain ⟨o1, o2, o3, o4⟩ := outs_below s d p q
  rcases h with ⟨u, hu⟩ | ⟨x, hx, hc⟩ | ⟨k, hk, hc⟩
  · have e := cof_var hu hG
    have hu14 : u < 14 := by
      refine Classical.byContradiction fun hn => ?_
      have := hb (fun _ => true) (fun v => decide (v < 14)) (fun v hv => by simp [hv])
      rw [e] at this
      simp at this
      omega
    simp only [roomL, List.mem_append]
    exact .inl (List.mem_map.2 ⟨u, List.mem_range.2 hu14, e.symm⟩)
  · simp only [partL, List.mem_cons, List.mem_nil_iff, or_false] at hx
    simp only [roomL, List.mem_append]
    rcases hx with rfl | rfl | rfl | rfl
    · exact .inr (.inl (cof_mem (bitF_below s 4 0 0) hc hG))
    · exact .inr (.inr (.inl (cof_mem (bitF_below p 3 8 0) hc hG)))
    · exact .inr (.inr (.inr (.inl (cof_mem (bitF_below d 4 4 0) hc hG))))
    · exact .inr (.inr (.inr (.inr (.inl (cof_mem (bitF_below q 3 11 0) hc hG)))))
  · simp only [roomL, List.mem_append]
    have hk4 : k < 4 := hk
    match k, hk4 with
    | 0, _ => exact .inr (.inr (.inr (.inr (.inr (.inl (cof_mem o1 hc hG))))))
    | 1, _ => exact .inr (.inr (.inr (.inr (.inr (.inr (.inl (cof_mem o2 hc hG)))))))
    | 2, _ => exact .inr (.inr (.inr (.inr (.inr (.inr (.inr (.inl (cof_mem o3 hc hG))))))))
    | 3, _ => exact .inr (.inr (.inr (.inr (.inr (.inr (.inr (.inr (cof_mem o4 hc hG))))))))

theorem build_room {A : St} {s d p q most : Nat} (he : Ext (newSt 14 most) A) (hm : 2 ≤ most) (hn : ∀ j, 2 ≤ j → j < A.len → NewB (partL s d p q) (den A.ns j)) : A.len ≤ 39208 := by
  have hi := newSt_inv 14 most (by omega) hm
  have hv : A.vars = 14 := he.vars
  have ok : Ok 14 A.ns := hv ▸ he.inv.ok
  obtain ⟨more, e⟩ := he.ns
  have ok' : Ok 14 ((newSt 14 most).ns ++ more) := e ▸ ok
  have := count_new hi.ok ok' (roomL s d p q) (fun j h1 h2 => by
    rw [← e] at h2 ⊢
    exact roomL_mem (hn j h1 h2) (nonconst ok h2 h1) (den_below ok j h2))
  rw [roomL_length] at this
  show A.ns.length ≤ _
  rw [e, List.length_append]
  have : (newSt 14 most).ns.length = 2 := rfl
  omega
end Go.Proofs.YtohbafigjpoijaaDoor

/- match.Build into an arena of too few variables; wirelaw.held. -/
set_option linter.unusedVariables false
set_option linter.unusedSimpArgs false
namespace Go.Proofs.YtohbafigjpoijaaDoor
open Go.RowKit Go.Maps Bdd

end Go.Proofs.YtohbafigjpoijaaDoor

/- MatchBuilds: the walk of the statement. -/
set_option linter.unusedVariables false
set_option linter.unusedSimpArgs false
namespace Go.Proofs.YtohbafigjpoijaaDoor
open Go.RowKit Go.Maps Bdd

end Go.Proofs.YtohbafigjpoijaaDoor

/- Calls that make functions, one behind the other. -/
set_option linter.unusedVariables false
set_option linter.unusedSimpArgs false
namespace Go.Proofs.YtohbafigjpoijaaDoor
open Go.RowKit Go.Maps Bdd

/-- A number of a function. -/
def IsF (A : St) (r : Nat) (F : Bdd.Fn) : Prop := r < A.ns.length ∧ den A.ns r = F
theorem IsF.ext {A A' : St} {r : Nat} {F : Bdd.Fn} (h : IsF A r F) (i : Inv A) (he : Ext A A') : IsF A' r F := ⟨Nat.lt_of_lt_of_le h.1 he.len, (he.den i h.1).trans h.2⟩
theorem IsF.zero {A : St} (i : Inv A) : IsF A 0 (fun _ => false) := ⟨by have := i.ok.two; omega, den_zero⟩
theorem IsF.one {A : St} (i : Inv A) : IsF A 1 (fun _ => true) := ⟨by have := i.ok.two; omega, den_one⟩

def BRes (A2 : St) (F : Bdd.Fn) (e : Ending) : Prop := (∃ r : Nat, e = .returned (.tuple #[.int .i64 (r : Int), .int .i64 0]) ∧ IsF A2 r F) ∨ (e = .returned (.tuple #[.int .i64 0, .int .i64 6]) ∧ A2.len = A2.most)

end Go.Proofs.YtohbafigjpoijaaDoor
