/- A part of the proof: Ring3, RgF, Rd10, Rd11, Rd12, Rd13, PkCode. -/
import Derived.Test.YtklbdfgblebniaaDs18
import Derived.Deep.LoopGhost

set_option linter.unusedVariables false
set_option linter.unusedSimpArgs false
namespace Go.Proofs.Ytklbdfgblebniaa
open Go.RowKit

theorem portsF_range (k : Int) : 0 ≤ portsF k ∧ portsF k ≤ 4 := by
  unfold portsF
  repeat' split
  all_goals omega

theorem wi16 (a : Int) : inR a 0 15 = (decide (0 ≤ a) && decide (a < 16)) := by
  unfold inR
  rw [Bool.eq_iff_iff]; simp; omega
theorem wi8 (a : Int) : inR a 0 7 = (decide (0 ≤ a) && decide (a < 8)) := by
  unfold inR
  rw [Bool.eq_iff_iff]; simp; omega
set_option maxRecDepth 100000 in
set_option maxHeartbeats 4000000 in
theorem packetCheck_walk (p : P4) (W : World) : Calls Try.prog 51 #[.agg #[.int .i64 p.src, .int .i64 p.dst, .int .i64 p.sport, .int .i64 p.dport]] W fun e W' => e = .returned (.int .i64 (if rightB p then 0 else 1)) ∧ RowKit.Below W.heap.size W W' := by
  obtain ⟨a, b, c, d⟩ := p
  have HB := hide (fun o => show RowKit.Below W.heap.size W (W.alloc o) from (RowKit.Below.refl _ _).alloc (Nat.le_refl _) o)
  have HR := hide (show rightB ⟨a, b, c, d⟩ = (inR a 0 15 && inR b 0 15 && inR c 0 7 && inR d 0 7) from rfl)
  generalize rightB _ = R at *
  cases e1 : inR a 0 15
  · have f1 := hide ((wi16 a).symm.trans e1)
    have HF := hide (show R = false from by rw [HR.out, e1]; rfl)
    rw [HF.out]
    go_enter Try.func51, Try.ntmps51
    go_wp2_with (first | (go_at_call_of 56 (Value.int .i64 a); refine (within_walk _ _ _ _ f1.out).mono ?_; rintro e w1 ⟨rfl, rfl⟩))
    go_ret
    exact ⟨rfl, HB.out _⟩
  have f1 := hide ((wi16 a).symm.trans e1)
  cases e2 : inR b 0 15
  · have f2 := hide ((wi16 b).symm.trans e2)
    have HF := hide (show R = false from by rw [HR.out, e1, e2]; rfl)
    rw [HF.out]
    go_enter Try.func51, Try.ntmps51
    go_wp2_with (first | (go_at_call_of 56 (Value.int .i64 a); refine (within_walk _ _ _ _ f1.out).mono ?_; rintro e w1 ⟨rfl, rfl⟩) | (go_at_call_of 56 (Value.int .i64 b); refine (within_walk _ _ _ _ f2.out).mono ?_; rintro e w1 ⟨rfl, rfl⟩))
    go_ret
    exact ⟨rfl, HB.out _⟩
  have f2 := hide ((wi16 b).symm.trans e2)
  cases e3 : inR c 0 7
  · have f3 := hide ((wi8 c).symm.trans e3)
    have HF := hide (show R = false from by rw [HR.out, e1, e2, e3]; rfl)
    rw [HF.out]
    go_enter Try.func51, Try.ntmps51
    go_wp2_with (first | (go_at_call_of 56 (Value.int .i64 a); refine (within_walk _ _ _ _ f1.out).mono ?_; rintro e w1 ⟨rfl, rfl⟩) | (go_at_call_of 56 (Value.int .i64 b); refine (within_walk _ _ _ _ f2.out).mono ?_; rintro e w1 ⟨rfl, rfl⟩) | (go_at_call_of 56 (Value.int .i64 c); refine (within_walk _ _ _ _ f3.out).mono ?_; rintro e w1 ⟨rfl, rfl⟩))
    go_ret
    exact ⟨rfl, HB.out _⟩
  have f3 := hide ((wi8 c).symm.trans e3)
  cases e4 : inR d 0 7
  · have f4 := hide ((wi8 d).symm.trans e4)
    have HF := hide (show R = false from by rw [HR.out, e1, e2, e3, e4]; rfl)
    rw [HF.out]
    go_enter Try.func51, Try.ntmps51
    go_wp2_with (first | (go_at_call_of 56 (Value.int .i64 a); refine (within_walk _ _ _ _ f1.out).mono ?_; rintro e w1 ⟨rfl, rfl⟩) | (go_at_call_of 56 (Value.int .i64 b); refine (within_walk _ _ _ _ f2.out).mono ?_; rintro e w1 ⟨rfl, rfl⟩) | (go_at_call_of 56 (Value.int .i64 c); refine (within_walk _ _ _ _ f3.out).mono ?_; rintro e w1 ⟨rfl, rfl⟩) | (go_at_call_of 56 (Value.int .i64 d); refine (within_walk _ _ _ _ f4.out).mono ?_; rintro e w1 ⟨rfl, rfl⟩))
    go_ret
    exact ⟨rfl, HB.out _⟩
  · have f4 := hide ((wi8 d).symm.trans e4)
    have HF := hide (show R = true from by rw [HR.out, e1, e2, e3, e4]; rfl)
    rw [HF.out]
    go_enter Try.func51, Try.ntmps51
    go_wp2_with (first | (go_at_call_of 56 (Value.int .i64 a); refine (within_walk _ _ _ _ f1.out).mono ?_; rintro e w1 ⟨rfl, rfl⟩) | (go_at_call_of 56 (Value.int .i64 b); refine (within_walk _ _ _ _ f2.out).mono ?_; rintro e w1 ⟨rfl, rfl⟩) | (go_at_call_of 56 (Value.int .i64 c); refine (within_walk _ _ _ _ f3.out).mono ?_; rintro e w1 ⟨rfl, rfl⟩) | (go_at_call_of 56 (Value.int .i64 d); refine (within_walk _ _ _ _ f4.out).mono ?_; rintro e w1 ⟨rfl, rfl⟩))
    go_ret
    exact ⟨rfl, HB.out _⟩
end Go.Proofs.Ytklbdfgblebniaa

set_option linter.unusedVariables false
set_option linter.unusedSimpArgs false
namespace Go.Proofs.Ytklbdfgblebniaa
open Go.RowKit Bdd

theorem orF_at (F G : Bdd.Fn) (x : Asg) : orF F G x = (F x || G x) := by unfold orF iteF; cases F x <;> simp

theorem countP_lt {p q : Nat → Bool} : ∀ {l : List Nat}, (∀ a ∈ l, p a = true → q a = true) → (∃ a ∈ l, q a = true ∧ p a = false) → l.countP p < l.countP q := by
  intro l
  induction l with
  | nil => rintro _ ⟨a, ha, _⟩; simp at ha
  | cons b l ih =>
    intro h hx
    have hle : l.countP p ≤ l.countP q := List.countP_mono_left (fun a ha => h a (by simp [ha]))
    have hb := h b (by simp)
    obtain ⟨a, ha, h1, h2⟩ := hx
    rw [List.countP_cons, List.countP_cons]
    rcases List.mem_cons.1 ha with rfl | ha'
    · rw [h1, h2]; simp; omega
    · have := ih (fun a ha => h a (by simp [ha])) ⟨a, ha', h1, h2⟩
      cases hp : p b
      · cases hq : q b <;> simp <;> omega
      · rw [hb hp]; simp; omega

def cntS (S : Pl → Bdd.Fn) (l : List Pl) : Nat := (l.map fun x => cntF 14 14 (S x)).sum
theorem cnt_le {F G : Bdd.Fn} (h : ∀ a, F a = true → G a = true) : cntF 14 14 F ≤ cntF 14 14 G := List.countP_mono_left (fun r _ => h _)
theorem cnt_lt {F G : Bdd.Fn} (hF : Bdd.Below 14 F) (hG : Bdd.Below 14 G) (h : ∀ a, F a = true → G a = true) (hne : F ≠ G) : cntF 14 14 F < cntF 14 14 G := by
  refine countP_lt (fun r _ => h _) ?_
  rcases Classical.em (∃ a, G a = true ∧ F a = false) with ⟨a, h1, h2⟩ | hno
  · have hcode : ∀ u, u < 14 → a u = asgV 14 (codeN a 14) u := fun u hu => (codeN_bit a 14 u hu).symm
    exact ⟨codeN a 14, List.mem_range.2 (codeN_lt a 14), by rw [← hG a _ hcode]; exact h1, by rw [← hF a _ hcode]; exact h2⟩
  · refine absurd (funext fun a => ?_) hne
    cases hf : F a
    · cases hg : G a
      · rfl
      · exact absurd ⟨a, hg, hf⟩ hno
    · rw [h a hf]
theorem cntS_le {S S' : Pl → Bdd.Fn} (h : ∀ x a, S' x a = true → S x a = true) : ∀ l, cntS S' l ≤ cntS S l := by
  intro l
  induction l with
  | nil => simp [cntS]
  | cons x l ih =>
    have := cnt_le (h x)
    simp only [cntS, List.map_cons, List.sum_cons] at *
    omega
theorem cntS_lt {S S' : Pl → Bdd.Fn} (hb : ∀ x, Bdd.Below 14 (S x)) (hb' : ∀ x, Bdd.Below 14 (S' x)) (h : ∀ x a, S' x a = true → S x a = true) {x : Pl} (hne : S' x ≠ S x) : ∀ l, x ∈ l → cntS S' l < cntS S l := by
  intro l
  induction l with
  | nil => intro hx; simp at hx
  | cons y l ih =>
    intro hx
    have h1 := cnt_le (h y)
    have h2 := cntS_le h l
    rcases List.mem_cons.1 hx with rfl | hx'
    · have := cnt_lt (hb' x) (hb x) (h x) hne
      simp only [cntS, List.map_cons, List.sum_cons] at *
      omega
    · have := ih hx'
      simp only [cntS, List.map_cons, List.sum_cons] at *
      omega
end Go.Proofs.Ytklbdfgblebniaa

set_option linter.unusedVariables false
set_option linter.unusedSimpArgs false
namespace Go.Proofs.Ytklbdfgblebniaa
open Go.RowKit Go.Maps Bdd

def LeS (S S' : Pl → Bdd.Fn) : Prop := ∀ x a, S x a = true → S' x a = true
theorem LeS.refl (S : Pl → Bdd.Fn) : LeS S S := fun _ _ h => h
theorem LeS.trans {S S' S'' : Pl → Bdd.Fn} (h : LeS S S') (k : LeS S' S'') : LeS S S'' := fun x a hh => k x a (h x a hh)
theorem le_send (ls : List LinkV) (y : Pl) (F : Bdd.Fn) (S : Pl → Bdd.Fn) : LeS S (sendS ls y F S) := fun x a h => by
  unfold sendS
  cases peerF ls y with
  | none => exact h
  | some z =>
    show (if z = x then orF (S z) F else S x) a = true
    by_cases e : z = x
    · subst e
      rw [if_pos rfl, orF_at, h]
      rfl
    · rw [if_neg e]
      exact h
theorem le_rtOut (ls : List LinkV) (i : Nat) (ts : List RouteV) (F : Bdd.Fn) (S : Pl → Bdd.Fn) : ∀ o, LeS S (rtOut ls i ts F S o)
  | 0 => LeS.refl S
  | o + 1 => (le_rtOut ls i ts F S o).trans (le_send _ _ _ _)
theorem le_rtIn (ls : List LinkV) (i : Nat) (ts : List RouteV) (rs : List RuleV) (Sw S : Pl → Bdd.Fn) : ∀ k, LeS S (rtIn ls i ts rs Sw S k)
  | 0 => LeS.refl S
  | k + 1 => (le_rtIn ls i ts rs Sw S k).trans (le_rtOut _ _ _ _ _ 4)
theorem le_fire (ls : List LinkV) (i : Nat) (rs : List RuleV) (Sw S : Pl → Bdd.Fn) : LeS S (fireS ls i rs Sw S) := by
  unfold fireS
  split
  · exact (le_send _ _ _ _).trans (le_send _ _ _ _)
  · exact le_send _ _ _ _
theorem le_nat (ls : List LinkV) (i a pl : Nat) (Sw S : Pl → Bdd.Fn) : LeS S (natS ls i a pl Sw S) := by
  unfold natS
  split
  · exact (le_send _ _ _ _).trans (le_send _ _ _ _)
  · exact le_send _ _ _ _
theorem le_balStep (ls : List LinkV) (i a : Nat) (Sw : Pl → Bdd.Fn) (b : Nat) (S : Pl → Bdd.Fn) : LeS S (balStep ls i a Sw b S) := by
  unfold balStep
  split
  · exact (le_send _ _ _ _).trans (le_send _ _ _ _)
  · exact le_send _ _ _ _
theorem le_balFold (ls : List LinkV) (i a : Nat) (Sw : Pl → Bdd.Fn) : ∀ (l : List Int) (S : Pl → Bdd.Fn), LeS S (l.foldl (fun S b => balStep ls i a Sw b.toNat S) S)
  | [], S => LeS.refl S
  | b :: t, S => (le_balStep ls i a Sw b.toNat S).trans (le_balFold ls i a Sw t _)
theorem le_bal (ls : List LinkV) (i a : Nat) (bs : List Int) (Sw S : Pl → Bdd.Fn) : LeS S (balS ls i a bs Sw S) := by
  unfold balS balTo bal0
  exact ((le_send _ _ _ _).trans (le_send _ _ _ _)).trans (le_balFold _ _ _ _ _ _)
theorem le_dev (ls : List LinkV) (i : Nat) (d : Dev) (Sw S : Pl → Bdd.Fn) : LeS S (devS ls i d Sw S) := by
  unfold devS
  split
  · exact le_rtIn _ _ _ _ _ _ 4
  split
  · exact le_fire _ _ _ _ _
  split
  · exact le_nat _ _ _ _ _ _
  split
  · exact le_bal _ _ _ _ _ _
  · exact LeS.refl _
theorem le_next (ds : List Dev) (ls : List LinkV) (Sw S : Pl → Bdd.Fn) : ∀ k, LeS S (nextTo ds ls Sw S k)
  | 0 => LeS.refl S
  | k + 1 => (le_next ds ls Sw S k).trans (by
      simp only [nextTo]
      split
      · exact le_dev _ _ _ _ _
      · exact LeS.refl _)

def firstS (ds : List Dev) (ls : List LinkV) : Pl → Bdd.Fn := firstTo ds ls (fun _ _ => false) ds.length
def roundS (ds : List Dev) (ls : List LinkV) : Nat → Pl → Bdd.Fn
  | 0 => firstS ds ls
  | k + 1 => nextTo ds ls (roundS ds ls k) (roundS ds ls k) ds.length
theorem le_round (ds : List Dev) (ls : List LinkV) (k : Nat) : LeS (roundS ds ls k) (roundS ds ls (k + 1)) := le_next _ _ _ _ _

structure MapOk (A : St) (M : PoK → Option Value) (S : Pl → Bdd.Fn) (ks : List Pl) : Prop where
  ints : Ints M
  keys : ∀ x, (M x).isSome = true → x ∈ ks
  isF : ∀ x, IsF A (numAt M x) (S x)
theorem MapOk.same {A : St} {M M' : PoK → Option Value} {S S' : Pl → Bdd.Fn} {ks : List Pl} (h : MapOk A M S ks) (h' : MapOk A M' S' ks) (hle : LeS S S') (hs : ∀ x, (M' x).isSome = true → numAt M x = numAt M' x) (x : Pl) : S' x = S x := by
  cases e : M' x with
  | some v => rw [← (h.isF x).2, ← (h'.isF x).2, hs x (by rw [e]; rfl)]
  | none =>
    have h0 : S' x = fun _ => false := by rw [← (h'.isF x).2, numAt_none e, den_zero]
    rw [h0]
    funext a
    cases hb : S x a
    · rfl
    · have := hle x a hb
      rw [h0] at this
      cases this
theorem MapOk.diff {A : St} {M M' : PoK → Option Value} {S S' : Pl → Bdd.Fn} {ks : List Pl} (i : Inv A) (h : MapOk A M S ks) (h' : MapOk A M' S' ks) {x : Pl} (hx : (M' x).isSome = true) (hne : numAt M x ≠ numAt M' x) : x ∈ ks ∧ S x ≠ S' x :=
  ⟨h'.keys x hx, fun e => hne ((canon i.ok (h.isF x).1 (h'.isF x).1).1 (by rw [(h'.isF x).2, (h.isF x).2, e]))⟩
theorem cntS_max (S : Pl → Bdd.Fn) : ∀ l : List Pl, cntS S l ≤ l.length * 16384
  | [] => Nat.le_refl _
  | x :: l => by
    have h1 : cntF 14 14 (S x) ≤ 16384 := by
      have := List.countP_le_length (p := fun r => S x (asgV 14 r)) (l := List.range (2 ^ 14))
      simpa [cntF] using this
    have h2 := cntS_max S l
    simp only [cntS, List.map_cons, List.sum_cons, List.length_cons] at *
    omega
end Go.Proofs.Ytklbdfgblebniaa

set_option linter.unusedVariables false
set_option linter.unusedSimpArgs false
namespace Go.Proofs.Ytklbdfgblebniaa
open Go.RowKit Go.Maps Bdd

def badMostR (most : Int) : Prop := most < 2 ∨ 40000 < most
def badE (E : Int) : Int := if E = 0 then 1 else E
theorem badE_no {E : Int} (h : E ≠ 0) : badE E = E := if_neg h
def NewBad (W : World) (E : Int) (e : Ending) (W' : World) : Prop := RowKit.Below W.heap.size W W' ∧ e = .returned (.tuple #[.pointer none, .int .i64 E])

set_option maxRecDepth 100000 in
set_option maxHeartbeats 4000000 in
theorem reachNew_bad (n : NetV) (most : Int) (W : World) (hn : NetAt W W.heap.size n) (h : netE n.devs n.ls ≠ 0 ∨ badMostR most) :
    Calls Try.prog 7 #[n.val, .int .i64 most] W (NewBad W (badE (netE n.devs n.ls))) := by
  have HN := hide hn
  clear hn
  obtain ⟨E, hE⟩ : ∃ E, netE n.devs n.ls = E := ⟨_, rfl⟩
  have HC := hide (fun (w' : World) (hb : RowKit.Below W.heap.size W w') => netCheck_walk n w' (HN.out.below hb hb.size))
  simp only [hE] at HC h
  rw [hE]
  clear hE
  obtain ⟨dA, dn, dc, ds, lA, ln, lc, ls⟩ := n
  simp only [NetV.val, NetV.devs] at *
  go_enter Try.func7, Try.ntmps7
  go_wp2_with fail
  have hb0 := below_alloc2 W (.cells #[.slice dA dn dc, .slice lA ln lc] 25)
  have HB0 := hide hb0
  refine (HC.out _ hb0).mono ?_
  rintro e w1 ⟨rfl, hb⟩
  have HB1 := hide (HB0.out.trans (hb.mono HB0.out.size))
  clear hb hb0
  by_cases h0 : E = 0
  · subst h0
    have hm : badMostR most := h.resolve_left (fun hh => hh rfl)
    have HM := hide hm
    clear h hm
    go_wp2_with fail
    refine (new_most_bad w1 14 most HM.out).mono ?_
    rintro e w2 ⟨rfl, hb⟩
    have HF := hide (show NewBad W (badE 0) (.returned (.tuple #[.pointer none, .int .i64 1])) w2 from ⟨HB1.out.trans (hb.mono HB1.out.size), rfl⟩)
    clear hb
    go_wp2
    go_ret2
    exact HF.out
  · have hE0 : (E != 0) = true := by simpa using h0
    have HF := hide (show NewBad W (badE E) (.returned (.tuple #[.pointer none, .int .i64 E])) w1 from ⟨HB1.out, by rw [badE_no h0]⟩)
    clear h h0
    go_wp2
    go_ret2
    exact HF.out
end Go.Proofs.Ytklbdfgblebniaa

set_option linter.unusedVariables false
set_option linter.unusedSimpArgs false
namespace Go.Proofs.Ytklbdfgblebniaa
open Go.RowKit Go.Maps Bdd

structure Ent where
  blk : Nat
  M : PoK → Option Value
  S : Pl → Bdd.Fn
structure MapE (A : St) (er : Nat) (M : PoK → Option Value) (S : Pl → Bdd.Fn) (ks : List Pl) : Prop where
  ints : Ints M
  keys : ∀ x, (M x).isSome = true → x ∈ ks
  isF : er = 0 → ∀ x, IsF A (numAt M x) (S x)
theorem MapE.ext {A A' : St} {er er' : Nat} {M : PoK → Option Value} {S : Pl → Bdd.Fn} {ks : List Pl} (h : MapE A er M S ks) (i : Inv A) (hx : Ext A A') (he : er' = 0 → er = 0) : MapE A' er' M S ks := ⟨h.ints, h.keys, fun h0 x => (h.isF (he h0) x).ext i hx⟩
theorem MapE.ok {A : St} {M : PoK → Option Value} {S : Pl → Bdd.Fn} {ks : List Pl} (h : MapE A 0 M S ks) : MapOk A M S ks := ⟨h.ints, h.keys, h.isF rfl⟩
structure Sums (wr : World) (B g : Nat) (A : St) (rb base : Nat) (v : Value) (L : List Ent) (ks : List Pl) (er : Nat) (more : List Nat) : Prop where
  sa : AS wr B g A (v.ownBlock.toList ++ (more ++ rb :: L.map Ent.blk))
  own : wr.ownsRow base 71 1 v L.length (L.map fun e => .map (some e.blk))
  ap : ∀ q, v.ownBlock = some q → q ∉ more ++ rb :: L.map Ent.blk
  bx : Bx wr rb #[v, .pointer (some ⟨g, 0, none⟩)] 66
  ents : ∀ e ∈ L, MapP wr e.blk e.M ∧ MapE A er e.M e.S ks
  ne : rb ∉ more ++ L.map Ent.blk
section
variable {wr w' : World} {B g rb base : Nat} {A A' : St} {v : Value} {L : List Ent} {ks : List Pl} {er er' : Nat} {more : List Nat}
theorem Sums.below (h : Sums wr B g A rb base v L ks er more) (hb : RowKit.Below wr.heap.size wr w') : Sums w' B g A rb base v L ks er more :=
  ⟨h.sa.below hb, own_below h.own hb, h.ap, h.bx.below hb, fun e he => ⟨(h.ents e he).1.same (hb.block _ (h.ents e he).1.lt), (h.ents e he).2⟩, h.ne⟩
theorem Sums.kept (h : Sums wr B g A rb base v L ks er more) (hsa : AS w' B g A' (v.ownBlock.toList ++ (more ++ rb :: L.map Ent.blk))) (hx : Ext A A') (hk : KP B (v.ownBlock.toList ++ (more ++ rb :: L.map Ent.blk)) wr w') (he : er' = 0 → er = 0) : Sums w' B g A' rb base v L ks er' more :=
  ⟨hsa, own_same h.own (fun q hq => hk.same q (by simp [hq])), h.ap, h.bx.same (hk.same rb (by simp)), fun e hm => ⟨(h.ents e hm).1.same (hk.same _ (by
    simp only [List.mem_append, List.mem_cons, List.mem_map]
    exact .inr (.inr (.inr ⟨e, hm, rfl⟩)))), (h.ents e hm).2.ext h.sa.inv hx he⟩, h.ne⟩
theorem Sums.less {more' : List Nat} (h : Sums wr B g A rb base v L ks er more) (hs : ∀ j ∈ more', j ∈ more) : Sums wr B g A rb base v L ks er more' := by
  have hsub : ∀ j, j ∈ more' ++ rb :: L.map Ent.blk → j ∈ more ++ rb :: L.map Ent.blk := fun j hj => by
    rcases List.mem_append.1 hj with a | a
    · exact List.mem_append_left _ (hs j a)
    · exact List.mem_append_right _ a
  refine ⟨h.sa.mono (fun j hj => ?_), h.own, fun q hq hm => h.ap q hq (hsub q hm), h.bx, h.ents, fun hm => h.ne ?_⟩
  · rcases List.mem_append.1 hj with a | a
    · exact List.mem_append_left _ a
    · exact List.mem_append_right _ (hsub j a)
  · rcases List.mem_append.1 hm with a | a
    · exact List.mem_append_left _ (hs rb a)
    · exact List.mem_append_right _ a
theorem Sums.grow {v5 : Value} {m : Nat} {ys : List Value} (h : Sums wr B g A rb base v L ks er more) (hown : w'.ownsRow base 71 1 v5 m ys) (hg : wr.grownBy w' v.ownBlock) (hat : v5.ownBlock = v.ownBlock ∨ v5.ownBlock = some wr.heap.size) : KP B (more ++ rb :: L.map Ent.blk) wr w' :=
  ((RowS.mk h.sa h.own h.ap : RowS wr B g A base _ 1 v L.length _ (more ++ rb :: L.map Ent.blk)).append hown hg hat).2
theorem Sums.push {v5 : Value} {e : Ent} (h : Sums wr B g A rb base v L ks er more) (hown : w'.ownsRow base 71 1 v5 (L.length + 1) ((L.map fun e => .map (some e.blk)) ++ [.map (some e.blk)])) (hg : wr.grownBy w' v.ownBlock) (hat : v5.ownBlock = v.ownBlock ∨ v5.ownBlock = some wr.heap.size)
    (he : e.blk ∈ more) (hm : MapP wr e.blk e.M) (hok : MapE A er e.M e.S ks) :
    Sums (w'.setCell ⟨rb, 0, none⟩ v5) B g A rb base v5 (L ++ [e]) ks er more ∧ KP B more wr (w'.setCell ⟨rb, 0, none⟩ v5) := by
  obtain ⟨r1, r2⟩ := (RowS.mk h.sa h.own h.ap : RowS wr B g A base _ 1 v L.length _ (more ++ rb :: L.map Ent.blk)).append hown hg hat
  have hne := h.ne
  simp only [List.mem_append, not_or] at hne
  have hs : (w'.setCell ⟨rb, 0, none⟩ v5).heap.size = w'.heap.size := size_setCell w' ⟨rb, 0, none⟩ v5
  have hc : ∀ i, i ≠ rb → (w'.setCell ⟨rb, 0, none⟩ v5).heap[i]? = w'.heap[i]? := fun i hi => RowKit.Below.heap_setCell _ _ _ _ hi
  have hrbB : B ≤ rb := (h.sa.lt rb (by simp)).1
  have hsa2 : AS (w'.setCell ⟨rb, 0, none⟩ v5) B g A (v5.ownBlock.toList ++ (more ++ rb :: L.map Ent.blk)) := r1.sa.turned (Nat.le_of_eq hs.symm) (fun i _ hn => hc i (fun e => hn (by simp [e])))
  have hkm : KP B more wr (w'.setCell ⟨rb, 0, none⟩ v5) := ⟨r2.low.trans ((RowKit.Below.refl _ _).setCell hrbB _), fun j hj => (hc j (fun e => hne.1 (e ▸ hj))).trans (r2.same j (by simp [hj]))⟩
  have hsub : ∀ j, j ∈ more ++ rb :: (L ++ [e]).map Ent.blk → j ∈ more ++ rb :: L.map Ent.blk := fun j hj => by
    rw [List.map_append] at hj
    rcases List.mem_append.1 hj with a | a
    · exact List.mem_append_left _ a
    · rcases List.mem_cons.1 a with a | a
      · simp [a]
      · rcases List.mem_append.1 a with a | a
        · exact List.mem_append_right _ (List.mem_cons_of_mem _ a)
        · rw [List.map_cons, List.map_nil, List.mem_singleton] at a
          exact List.mem_append_left _ (a ▸ he)
  refine ⟨⟨hsa2.mono (fun j hj => ?_), ?_, fun q hq hm => r1.ap q hq (hsub q hm), ?_, fun x hx => ?_, fun hm => ?_⟩, hkm⟩
  · rcases List.mem_append.1 hj with a | a
    · exact List.mem_append_left _ a
    · exact List.mem_append_right _ (hsub j a)
  · have e1 : (L ++ [e]).length = L.length + 1 := by simp
    have e2 : ((L ++ [e]).map fun e => (Value.map (some e.blk))) = (L.map fun e => .map (some e.blk)) ++ [.map (some e.blk)] := by simp
    rw [e1, e2]
    exact own_same r1.own (fun q hq => hc q (fun e => r1.ap q hq (by simp [e])))
  · exact (h.bx.same (r2.same rb (by simp))).set 0 v5
  · rcases List.mem_append.1 hx with a | a
    · obtain ⟨q1, q2⟩ := h.ents x a
      have hxb : x.blk ∈ L.map Ent.blk := List.mem_map_of_mem a
      exact ⟨q1.same ((hc _ (fun e => hne.2 (e ▸ hxb))).trans (r2.same _ (by simp only [List.mem_append, List.mem_cons]; exact .inr (.inr hxb)))), q2⟩
    · rw [List.mem_singleton] at a
      subst a
      exact ⟨hm.same (hkm.same _ he), hok⟩
  · rw [List.map_append] at hm
    rcases List.mem_append.1 hm with a | a
    · exact hne.1 a
    · rcases List.mem_append.1 a with a | a
      · exact hne.2 a
      · rw [List.map_cons, List.map_nil, List.mem_singleton] at a
        exact hne.1 (a ▸ he)
end
end Go.Proofs.Ytklbdfgblebniaa

set_option linter.unusedVariables false
set_option linter.unusedSimpArgs false
namespace Go.Proofs.Ytklbdfgblebniaa
open Go.RowKit Go.Maps Bdd

theorem Try.infoSum : (Try.prog.info? 71).map (fun i => (i.zero, i.size, i.bytes)) = some (some (.map none), 1, 8) := by kernel_rfl
theorem MapOk.empty {A : St} (i : Inv A) (ks : List Pl) : MapOk A (fun _ => none) (fun _ _ => false) ks :=
  ⟨fun a v h => by (cases h), fun x h => by (cases h), fun x => by rw [numAt_none rfl]; exact IsF.zero i⟩
theorem RD.start {w : World} {B g mk rd nm : Nat} {A : St} {bl : List Nat} {n : NetV} {wmV : Value} (hmk : MK w B g A (rd :: nm :: bl) mk 0) (hbx : Bx w rd #[.pointer (some ⟨mk, 0, none⟩), .slice n.dA n.dn n.dc, .slice n.lA n.ln n.lc, wmV, .map (some nm)] 73) {M : PoK → Option Value} {S : Pl → Bdd.Fn} (hm : MapP w nm M) (hok : MapOk A M S (endsOf n.ls)) (hne : rd ≠ nm ∧ rd ∉ bl ∧ nm ∉ bl) : RD w B g A bl mk 0 rd n wmV nm M S :=
  ⟨hmk, hbx, hm, hok.ints, hok.keys, fun _ x => hok.isF x, hne⟩

theorem new_boxes {w : World} {B g : Nat} {A : St} (h : AS w B g A []) (n : NetV) :
    RD ((((w.alloc (.cells #[.slice none 0 0, .pointer (some ⟨g, 0, none⟩)] 66)).alloc (.cells #[.pointer (some ⟨g, 0, none⟩), .int .i64 0] 70)).alloc (.map #[] 0)).alloc (.cells #[.pointer (some ⟨w.heap.size + 1, 0, none⟩), .slice n.dA n.dn n.dc, .slice n.lA n.ln n.lc, .map none, .map (some (w.heap.size + 1 + 1))] 73))
      B g A [w.heap.size] (w.heap.size + 1) 0 (w.heap.size + 1 + 1 + 1) n (.map none) (w.heap.size + 1 + 1) (fun _ => none) (fun _ _ => false) ∧
    Bx ((((w.alloc (.cells #[.slice none 0 0, .pointer (some ⟨g, 0, none⟩)] 66)).alloc (.cells #[.pointer (some ⟨g, 0, none⟩), .int .i64 0] 70)).alloc (.map #[] 0)).alloc (.cells #[.pointer (some ⟨w.heap.size + 1, 0, none⟩), .slice n.dA n.dn n.dc, .slice n.lA n.ln n.lc, .map none, .map (some (w.heap.size + 1 + 1))] 73))
      w.heap.size #[.slice none 0 0, .pointer (some ⟨g, 0, none⟩)] 66 ∧
    RowKit.Below w.heap.size w ((((w.alloc (.cells #[.slice none 0 0, .pointer (some ⟨g, 0, none⟩)] 66)).alloc (.cells #[.pointer (some ⟨g, 0, none⟩), .int .i64 0] 70)).alloc (.map #[] 0)).alloc (.cells #[.pointer (some ⟨w.heap.size + 1, 0, none⟩), .slice n.dA n.dn n.dc, .slice n.lA n.ln n.lc, .map none, .map (some (w.heap.size + 1 + 1))] 73)) := by
  have hinv := h.inv
  have h1 := h.alloc (.cells #[.slice none 0 0, .pointer (some ⟨g, 0, none⟩)] 66)
  have x1 := Bx.new w #[.slice none 0 0, .pointer (some ⟨g, 0, none⟩)] 66
  have b1 := below_alloc2 w (.cells #[.slice none 0 0, .pointer (some ⟨g, 0, none⟩)] 66)
  have s1 : (w.alloc (.cells #[.slice none 0 0, .pointer (some ⟨g, 0, none⟩)] 66)).heap.size = w.heap.size + 1 := by simp
  generalize World.alloc w _ = w3 at *
  have h2 := h1.alloc (.cells #[.pointer (some ⟨g, 0, none⟩), .int .i64 0] 70)
  have x2 := Bx.new w3 #[.pointer (some ⟨g, 0, none⟩), .int .i64 0] 70
  have b2 := below_alloc2 w3 (.cells #[.pointer (some ⟨g, 0, none⟩), .int .i64 0] 70)
  have s2 : (w3.alloc (.cells #[.pointer (some ⟨g, 0, none⟩), .int .i64 0] 70)).heap.size = w.heap.size + 1 + 1 := by simp [s1]
  rw [s1] at h2 x2
  have x1' := x1.below b2
  have b12 := b1.trans (b2.mono b1.size)
  generalize World.alloc w3 _ = w4 at *
  have h3 := h2.alloc (.map #[] 0)
  have x3 := MapIs.made (P := Try.prog) (kt := 43) (key := poVal) (dom := poDom) w4
  have b3 := below_alloc2 w4 (.map #[] 0)
  have s3 : (w4.alloc (.map #[] 0)).heap.size = w.heap.size + 1 + 1 + 1 := by simp [s2]
  rw [s2] at h3 x3
  have x1'' := x1'.below b3
  have x2' := x2.below b3
  have b13 := b12.trans (b3.mono b12.size)
  generalize World.alloc w4 _ = w5 at *
  have h4 := h3.alloc (.cells #[.pointer (some ⟨w.heap.size + 1, 0, none⟩), .slice n.dA n.dn n.dc, .slice n.lA n.ln n.lc, .map none, .map (some (w.heap.size + 1 + 1))] 73)
  have x4 := Bx.new w5 #[.pointer (some ⟨w.heap.size + 1, 0, none⟩), .slice n.dA n.dn n.dc, .slice n.lA n.ln n.lc, .map none, .map (some (w.heap.size + 1 + 1))] 73
  have b4 := below_alloc2 w5 (.cells #[.pointer (some ⟨w.heap.size + 1, 0, none⟩), .slice n.dA n.dn n.dc, .slice n.lA n.ln n.lc, .map none, .map (some (w.heap.size + 1 + 1))] 73)
  rw [s3] at h4 x4
  have b14 := b13.trans (b4.mono b13.size)
  have y3 := x3.same (b4.block _ x3.lt)
  generalize World.alloc w5 _ = w6 at *
  refine ⟨RD.start ⟨h4.mono (fun j hj => ?_), x2'.below b4, .inl rfl, ?_⟩ x4 y3 (MapOk.empty hinv _) ⟨by omega, ?_, ?_⟩, x1''.below b4, b14⟩
  · simp only [List.mem_cons, List.not_mem_nil, or_false] at hj ⊢
    omega
  · simp only [List.mem_cons, List.not_mem_nil, or_false]
    omega
  · simp only [List.mem_cons, List.not_mem_nil, or_false]
    omega
  · simp only [List.mem_cons, List.not_mem_nil, or_false]
    omega
theorem netLinks_ok {ds : List Dev} {ls : List LinkV} (h : netE ds ls = 0) : LinksOk ls := by
  have hn := netE_ok h
  refine ⟨hn.ll, fun x hx => ?_⟩
  have hv := hn.pl _ hx
  obtain ⟨⟨a1, a2⟩, a3, a4⟩ := placeB_iff.1 hv
  have hq := portsF_range (kindAt ds x.1)
  have hdl := hn.dl
  refine ⟨?_, ?_⟩ <;> (simp only [i64ok]; omega)

theorem next_box {w8 : World} {B g : Nat} {A : St} {N base : Nat} {v : Value} {L : List Ent} {er rd nm mk nb : Nat} {n : NetV} {Mn : PoK → Option Value} {S : Pl → Bdd.Fn} (h : Sums w8 B g A N base v L (endsOf n.ls) er [rd, nm, mk]) (ha : AS w8 B g A (nb :: (v.ownBlock.toList ++ ([rd, nm, mk] ++ N :: L.map Ent.blk)))) (hmk : Bx w8 mk #[.pointer (some ⟨g, 0, none⟩), .int .i64 (er : Int)] 70) (her : er = 0 ∨ (er = 6 ∧ A.len = A.most))
    (hmem : (⟨nm, Mn, S⟩ : Ent) ∈ L) (hm : MapP w8 nb Mn) (hne : nb ∉ v.ownBlock.toList ++ ([rd, nm, mk] ++ N :: L.map Ent.blk)) (h1 : mk ≠ rd) (h2 : mk ∉ L.map Ent.blk) :
    RD (w8.alloc (.cells #[.pointer (some ⟨mk, 0, none⟩), .slice n.dA n.dn n.dc, .slice n.lA n.ln n.lc, .map (some nm), .map (some nb)] 73)) B g A (rd :: (v.ownBlock.toList ++ N :: L.map Ent.blk)) mk er w8.heap.size n (.map (some nm)) nb Mn S ∧
    WasOk (w8.alloc (.cells #[.pointer (some ⟨mk, 0, none⟩), .slice n.dA n.dn n.dc, .slice n.lA n.ln n.lc, .map (some nm), .map (some nb)] 73)) A er (rd :: (v.ownBlock.toList ++ N :: L.map Ent.blk)) nm Mn S := by
  have hb := below_alloc2 w8 (.cells #[.pointer (some ⟨mk, 0, none⟩), .slice n.dA n.dn n.dc, .slice n.lA n.ln n.lc, .map (some nm), .map (some nb)] 73)
  have hlt := ha.lt
  have hent := h.ents _ hmem
  have hnN := h.ne
  simp only [List.mem_append, List.mem_cons, List.not_mem_nil, or_false, not_or] at hne hnN
  have hsub : ∀ j, j ∈ rd :: (v.ownBlock.toList ++ N :: L.map Ent.blk) → j ∈ v.ownBlock.toList ++ ([rd, nm, mk] ++ N :: L.map Ent.blk) := fun j hj => by
    simp only [List.mem_append, List.mem_cons, List.not_mem_nil, or_false] at hj ⊢
    rcases hj with a | a | a | a <;> simp [a]
  refine ⟨⟨⟨(ha.alloc _).mono (fun j hj => ?_), hmk.below hb, her, fun hj => ?_⟩, Bx.new _ _ _, hm.same (hb.block _ hm.lt), hent.2.ints, hent.2.keys, hent.2.isF, ?_, ?_, ?_⟩, ⟨?_, hent.1.same (hb.block _ hent.1.lt), hent.2.ints, hent.2.isF⟩⟩
  · simp only [List.mem_append, List.mem_cons, List.not_mem_nil, or_false] at hj ⊢
    rcases hj with a | a | a | a | a | a | a <;> simp [a]
  · have hl := (hlt mk (by simp)).2
    rcases List.mem_cons.1 hj with a | a
    · omega
    rcases List.mem_cons.1 a with a | a
    · exact hne.2.1.2.2 a.symm
    rcases List.mem_cons.1 a with a | a
    · exact h1 a
    rcases List.mem_append.1 a with a | a
    · exact h.ap mk (by simpa using a) (by simp)
    rcases List.mem_cons.1 a with a | a
    · exact hnN.1.2.2 a.symm
    · exact h2 a
  · have := (hlt nb (by simp)).2
    omega
  · intro hj
    have := (hlt _ (List.mem_cons_of_mem _ (hsub _ hj))).2
    omega
  · intro hj
    have := hsub _ hj
    simp only [List.mem_append, List.mem_cons, List.not_mem_nil, or_false] at this
    rcases this with a | a | a | a
    · exact hne.1 a
    · rcases a with a | a | a
      · exact hne.2.1.1 a
      · exact hne.2.1.2.1 a
      · exact hne.2.1.2.2 a
    · exact hne.2.2.1 a
    · exact hne.2.2.2 a
  · have : nm ∈ L.map Ent.blk := List.mem_map_of_mem (f := Ent.blk) hmem
    simp [this]
theorem reads_one {w : World} {N : Nat} {u : Value} {t : TypeId} (h : Bx w N #[u] t) : Reads w (N + 1) 1 (some ⟨N, 0, none⟩) 1 [u] :=
  ⟨rfl, fun _ => ⟨_, rfl, Nat.lt_succ_self _, fun j u' hu => by
    rw [addr_add, Nat.zero_add]
    exact h.get j u' (by simpa using hu)⟩⟩
structure NS (wr : World) (B g : Nat) (A : St) (N base : Nat) (v : Value) (L : List Ent) (k mk er rd : Nat) (n : NetV) (wmV : Value) (nm : Nat) (Mn : PoK → Option Value) : Prop where
  rnd : RD wr B g A (v.ownBlock.toList ++ N :: L.map Ent.blk) mk er rd n wmV nm Mn (roundS n.devs n.ls k)
  su : Sums wr B g A N base v L (endsOf n.ls) er [rd, nm, mk]
  ls : L.map Ent.S = (List.range k).map (roundS n.devs n.ls)
theorem NS.start {wr : World} {B g : Nat} {A : St} {N base mk er rd : Nat} {n : NetV} {nm : Nat} {Mn : PoK → Option Value} (h : RD wr B g A [N] mk er rd n (.map none) nm Mn (roundS n.devs n.ls 0)) (hx : Bx wr N #[.slice none 0 0, .pointer (some ⟨g, 0, none⟩)] 66) :
    NS wr B g A N base (.slice none 0 0) [] 0 mk er rd n (.map none) nm Mn := by
  obtain ⟨n1, n2, n3⟩ := h.ne
  have hmk := h.m.ap
  simp only [List.mem_cons, List.not_mem_nil, or_false, not_or] at n2 n3 hmk
  refine ⟨h, ⟨h.m.sa.mono (fun j hj => ?_), World.ownsRow_nil _ _ _ _, fun q hq => by (cases hq), hx, fun e he => by (cases he), ?_⟩, rfl⟩
  · simp only [Value.ownBlock, Option.map_none, Option.toList_none, List.nil_append, List.map_nil, List.mem_append, List.mem_cons, List.not_mem_nil, or_false] at hj ⊢
    omega
  · simp only [List.map_nil, List.append_nil, List.mem_cons, List.not_mem_nil, or_false, not_or]
    exact ⟨Ne.symm n2, Ne.symm n3, Ne.symm hmk.2.2⟩

end Go.Proofs.Ytklbdfgblebniaa

set_option linter.unusedVariables false
set_option linter.unusedSimpArgs false
namespace Go.Proofs.Ytklbdfgblebniaa
open Go.RowKit Go.Maps

def codeP (p : P4) : Nat := p.src.toNat * 1024 + p.dst.toNat * 64 + p.sport.toNat * 8 + p.dport.toNat
theorem right_nats {p : P4} (h : rightB p = true) : ∃ a b c d : Nat, p = ⟨(a : Int), (b : Int), (c : Int), (d : Int)⟩ ∧ a < 16 ∧ b < 16 ∧ c < 8 ∧ d < 8 := by
  obtain ⟨a, b, c, d⟩ := p
  simp only [rightB, inR, Bool.and_eq_true, decide_eq_true_eq] at h
  refine ⟨a.toNat, b.toNat, c.toNat, d.toNat, ?_, by omega, by omega, by omega, by omega⟩
  simp only [P4.mk.injEq]
  omega
theorem code_lt {p : P4} (h : rightB p = true) : codeP p < 16384 := by
  obtain ⟨a, b, c, d, rfl, h1, h2, h3, h4⟩ := right_nats h
  simp only [codeP, Int.toNat_natCast]
  omega
theorem or_parts (a b k : Nat) (hb : b < 2 ^ k) : a * 2 ^ k ||| b = a * 2 ^ k + b := by
  rw [Nat.mul_comm, Nat.two_pow_add_eq_or_of_lt hb]
theorem or_code1 (a b : Nat) (ha : a < 16) (hb : b < 16) : Go.bits .or .i64 ((a * 1024 : Nat) : Int) ((b * 64 : Nat) : Int) = ((a * 1024 + b * 64 : Nat) : Int) := by
  rw [i64_or _ _ (by omega) (by omega)]
  have : a * 1024 ||| b * 64 = a * 1024 + b * 64 := or_parts a (b * 64) 10 (by omega)
  rw [this]
theorem or_code2 (a b c : Nat) (ha : a < 16) (hb : b < 16) (hc : c < 8) : Go.bits .or .i64 ((a * 1024 + b * 64 : Nat) : Int) ((c * 8 : Nat) : Int) = ((a * 1024 + b * 64 + c * 8 : Nat) : Int) := by
  rw [i64_or _ _ (by omega) (by omega)]
  have := or_parts (a * 16 + b) (c * 8) 6 (by omega)
  have e : (a * 16 + b) * 2 ^ 6 = a * 1024 + b * 64 := by omega
  rw [e] at this
  rw [this]
theorem or_code3 (a b c d : Nat) (ha : a < 16) (hb : b < 16) (hc : c < 8) (hd : d < 8) : Go.bits .or .i64 ((a * 1024 + b * 64 + c * 8 : Nat) : Int) (d : Int) = ((a * 1024 + b * 64 + c * 8 + d : Nat) : Int) := by
  rw [i64_or _ _ (by omega) (by omega)]
  have := or_parts (a * 128 + b * 8 + c) d 3 (by omega)
  have e : (a * 128 + b * 8 + c) * 2 ^ 3 = a * 1024 + b * 64 + c * 8 := by omega
  rw [e] at this
  rw [this]
set_option maxRecDepth 100000 in
set_option maxHeartbeats 4000000 in
theorem code_walk (p : P4) (W : World) : Calls Try.prog 24 #[.agg #[.int .i64 p.src, .int .i64 p.dst, .int .i64 p.sport, .int .i64 p.dport]] W fun e W' => e = .returned (.tuple #[.int .i64 (if rightB p then (codeP p : Int) else 0), .int .i64 (if rightB p then 0 else 1)]) ∧ RowKit.Below W.heap.size W W' := by
  have HC := hide (fun (w : World) => packetCheck_walk p w)
  cases hR : rightB p with
  | false =>
    simp only [hR] at HC
    obtain ⟨a, b, c, d⟩ := p
    clear hR
    go_enter Try.func24, Try.ntmps24
    go_wp2_with fail
    have hb0 := (RowKit.Below.refl W.heap.size W).alloc (Nat.le_refl _) (.cells #[.int .i64 a, .int .i64 b, .int .i64 c, .int .i64 d] 27)
    refine (HC.out _).mono ?_
    rintro e w1 ⟨rfl, hb⟩
    have HB := hide (hb0.trans (hb.mono hb0.size))
    clear hb hb0
    go_wp2
    go_ret2
    exact ⟨rfl, HB.out⟩
  | true =>
    simp only [hR] at HC
    obtain ⟨a, b, c, d, rfl, h1, h2, h3, h4⟩ := right_nats hR
    have e0 : codeP ⟨(a : Int), (b : Int), (c : Int), (d : Int)⟩ = a * 1024 + b * 64 + c * 8 + d := by simp only [codeP, Int.toNat_natCast]
    rw [e0]
    have q1 := or_code1 a b h1 h2
    have q2 := or_code2 a b c h1 h2 h3
    have q3 := or_code3 a b c d h1 h2 h3 h4
    have q4 : Go.bits .or .i64 (Go.bits .or .i64 (Go.bits .or .i64 ((a : Int) * 1024) ((b : Int) * 64)) ((c : Int) * 8)) (d : Int) = ((a * 1024 + b * 64 + c * 8 + d : Nat) : Int) := by
      rw [show ((a : Int) * 1024) = ((a * 1024 : Nat) : Int) by omega, show ((b : Int) * 64) = ((b * 64 : Nat) : Int) by omega, show ((c : Int) * 8) = ((c * 8 : Nat) : Int) by omega, q1, q2, q3]
    have HQ := hide q4
    clear hR e0 q1 q2 q3 q4
    go_enter Try.func24, Try.ntmps24
    go_wp2_with fail
    have hb0 := (RowKit.Below.refl W.heap.size W).alloc (Nat.le_refl _) (.cells #[.int .i64 (a : Int), .int .i64 (b : Int), .int .i64 (c : Int), .int .i64 (d : Int)] 27)
    have HX0 := hide (heap_alloc_new W (.cells #[.int .i64 (a : Int), .int .i64 (b : Int), .int .i64 (c : Int), .int .i64 (d : Int)] 27))
    refine (HC.out _).mono ?_
    rintro e w1 ⟨rfl, hb⟩
    have HB := hide (hb0.trans (hb.mono hb0.size))
    have hx := (hb.block W.heap.size (by simp)).trans HX0.out
    have x0 : w1.cell? ⟨W.heap.size, 0, none⟩ = some (.int .i64 (a : Int)) := by rw [cell_of_row _ _ _ _ _ _ hx]; rfl
    have x1 : w1.cell? ⟨W.heap.size, 1, none⟩ = some (.int .i64 (b : Int)) := by rw [cell_of_row _ _ _ _ _ _ hx]; rfl
    have x2 : w1.cell? ⟨W.heap.size, 2, none⟩ = some (.int .i64 (c : Int)) := by rw [cell_of_row _ _ _ _ _ _ hx]; rfl
    have x3 : w1.cell? ⟨W.heap.size, 3, none⟩ = some (.int .i64 (d : Int)) := by rw [cell_of_row _ _ _ _ _ _ hx]; rfl
    clear hb hb0 hx HX0
    go_wp2
    go_ret2
    refine ⟨?_, HB.out⟩
    show Ending.returned (.tuple #[.int .i64 (Go.bits .or .i64 (Go.bits .or .i64 (Go.bits .or .i64 ((a : Int) * 1024) ((b : Int) * 64)) ((c : Int) * 8)) (d : Int)), .int .i64 0]) = _
    rw [HQ.out]
    rfl
end Go.Proofs.Ytklbdfgblebniaa
