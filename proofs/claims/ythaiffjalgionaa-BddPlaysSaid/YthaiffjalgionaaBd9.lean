/- wireward/wirelaw.BddPlays: whatever is handed in, it returns true, and leaves the input as it reads. -/
import Derived.Test.YthaiffjalgionaaBd8
import Derived.RegionTactic
import Derived.Deep.RegionHeld3
import Derived.BigRegion
import Derived.ChangeAlike

set_option linter.unusedVariables false
set_option linter.unusedSimpArgs false
namespace Go.Proofs.Ythaiffjalgionaa
open Go.RowKit Go.Maps Bdd Bq

def OpV.cells (x : OpV) : List Value := [.int .i64 x.k, .int .i64 x.a, .int .i64 x.b, .int .i64 x.c]
theorem OpV.len (x : OpV) : x.cells.length = 4 := rfl
def TrueP (W : World) (e : Ending) (W' : World) : Prop := e = .returned (.bool true) ∧ RowKit.Below W.heap.size W W'
theorem op_cells {w : World} {B b o n k : Nat} {l : List OpV} {x : OpV} (h : SlAt OpV.cells 4 w B (some ⟨b, o, none⟩) n l) (hx : l[k]? = some x) : w.cell? ⟨b, o + k * 4, none⟩ = some (.int .i64 x.k) ∧ w.cell? ⟨b, o + k * 4 + 1, none⟩ = some (.int .i64 x.a) ∧ w.cell? ⟨b, o + k * 4 + 2, none⟩ = some (.int .i64 x.b) ∧ w.cell? ⟨b, o + k * 4 + 3, none⟩ = some (.int .i64 x.c) := by
  obtain ⟨_, hg⟩ := h.get hx
  exact ⟨hg 0 _ rfl, hg 1 _ rfl, hg 2 _ rfl, hg 3 _ rfl⟩
theorem KAt.start {w : World} {B g nb kb ib vars most n N1 N2 cap : Nat} {K T : Tri → Option Value} (hA : ArenaAt w B g nb kb ib cap (newSt vars most) K T) (h1 : TabAt w N1 n n (fun _ => false)) (h2 : TabAt w N2 n n (fun _ => true)) (o1 : ¬ Fp g nb kb ib N1) (o2 : ¬ Fp g nb kb ib N2) (hB : B ≤ w.heap.size) :
    KAt (w.alloc (.cells #[.int .i64 0, .slice (some ⟨N1, 0, none⟩) n n, .int .i64 1, .slice (some ⟨N2, 0, none⟩) n n] 59)) B g nb kb ib vars most n w.heap.size 2 (newSt vars most) [⟨0, N1, fun _ => false⟩, ⟨1, N2, fun _ => true⟩] := by
  have hb := below_alloc w (.cells #[.int .i64 0, .slice (some ⟨N1, 0, none⟩) n n, .int .i64 1, .slice (some ⟨N2, 0, none⟩) n n] 59)
  obtain ⟨l1, l2, l3, l4, _⟩ := hA.lts
  refine ⟨⟨_, _, _, hA.below hb⟩, rfl, rfl, rfl, ⟨rfl, .inr ⟨_, 2, _, rfl, hB, heap_alloc_new w _, Nat.le_refl _, by unfold maxLen; omega, rfl, rfl⟩⟩, fun h => ?_, fun s hs => ?_⟩
  · rcases h with e | e | e | e <;> omega
  · simp only [List.mem_cons, List.mem_nil_iff, or_false] at hs
    rcases hs with rfl | rfl
    · exact ⟨h1.below hb, o1, Nat.ne_of_lt h1.lt, (by simp [newSt]), fun i _ => by rw [den_zero]⟩
    · exact ⟨h2.below hb, o2, Nat.ne_of_lt h2.lt, (by simp [newSt]), fun i _ => by rw [den_one]⟩
structure XB (w : World) (g nb kb ib NX : Nat) (vs : Array Value) : Prop where
  b : BoxV w NX vs
  lt : NX < w.heap.size
  off : ¬ Fp g nb kb ib NX
theorem Bq.BoxV.frm {S : Nat → Prop} {w w' : World} {N : Nat} {vs : Array Value} (h : BoxV w N vs) (hf : Frm S w w') (hl : N < w.heap.size) (hN : ¬ S N) : BoxV w' N vs :=
  ⟨fun j v hv => (World.cell?_of_block (a := ⟨N, j, none⟩) (hf.block N hl hN)).trans (h.1 j v hv), fun o => (World.frozen?_of_block (a := ⟨N, o, none⟩) (hf.block N hl hN)).trans (h.2 o)⟩
theorem XB.below {w w' : World} {g nb kb ib NX : Nat} {vs : Array Value} (h : XB w g nb kb ib NX vs) (hb : RowKit.Below w.heap.size w w') : XB w' g nb kb ib NX vs := ⟨h.b.below hb h.lt, Nat.lt_of_lt_of_le h.lt hb.size, h.off⟩
theorem XB.asked {w w' : World} {B g nb kb ib NX : Nat} {vs : Array Value} (h : XB w g nb kb ib NX vs) {A : St} {k nb2 cap2 : Nat} {A2 : St} {K2 T2 : Tri → Option Value} (hm : MS w B g nb kb ib A k w' nb2 cap2 A2 K2 T2) : XB w' g nb2 kb ib NX vs :=
  ⟨h.b.frm hm.fm h.lt h.off, Nat.lt_of_lt_of_le h.lt hm.fm.size, fp_new hm.nbc h.lt h.off⟩
theorem KAt.box {w : World} {B g nb kb ib vars most n N c : Nat} {A : St} {l : List SeenV} (h : KAt w B g nb kb ib vars most n N c A l) (vs : Array Value) (t : TypeId) : KAt (w.alloc (.cells vs t)) B g nb kb ib vars most n N c A l ∧ XB (w.alloc (.cells vs t)) g nb kb ib w.heap.size vs := by
  refine ⟨h.below (below_alloc _ _), BoxV.new _ _ _, by simp, fun hF => ?_⟩
  obtain ⟨cap, K, T, ha⟩ := h.ar
  obtain ⟨l1, l2, l3, l4, _⟩ := ha.lts
  rcases hF with e | e | e | e <;> omega
theorem KAt.low {w w' : World} {B g nb kb ib vars most n N c : Nat} {A : St} {l : List SeenV} (h : KAt w B g nb kb ib vars most n N c A l) {k nb2 cap2 : Nat} {A2 : St} {K2 T2 : Tri → Option Value} (hm : MS w B g nb kb ib A k w' nb2 cap2 A2 K2 T2) : RowKit.Below B w w' := by
  obtain ⟨cap, K, T, ha⟩ := h.ar
  exact ha.frmBelow hm.fm
def AndP (w : World) (B g nb kb ib vars most n N c : Nat) (A : St) (l : List SeenV) (x : OpV) (NX : Nat) (vs : Array Value) (e : Ending) (w' : World) : Prop :=
  ∃ (r q : Int) (nb2 : Nat) (A2 : St), e = .returned (.tuple #[.int .i64 r, .int .i64 q]) ∧ ((inR x.a 0 ((A.ns.length : Int) - 1) = true ∧ inR x.b 0 ((A.ns.length : Int) - 1) = true) ∨ (r = 0 ∧ q = 1)) ∧ KAt w' B g nb2 kb ib vars most n N c A2 l ∧ XB w' g nb2 kb ib NX vs ∧ RowKit.Below B w w'
theorem and_step {w : World} {B g nb kb ib vars most n N c : Nat} {A : St} {l : List SeenV} (h : KAt w B g nb kb ib vars most n N c A l) (x : OpV) (hx : x.ok) {NX : Nat} {vs : Array Value} (hb : XB w g nb kb ib NX vs) (hB : B ≤ w.heap.size) :
    Calls Try.prog 24 #[.pointer (some ⟨g, 0, none⟩), .int .i64 x.a, .int .i64 x.b] w (AndP w B g nb kb ib vars most n N c A l x NX vs) := by
  obtain ⟨cap, K, T, ha⟩ := h.ar
  by_cases hv : (0 ≤ x.a ∧ x.a < A.ns.length) ∧ (0 ≤ x.b ∧ x.b < A.ns.length)
  · obtain ⟨⟨h1, h2⟩, h3, h4⟩ := hv
    obtain ⟨i, hi⟩ : ∃ i : Nat, x.a = (i : Int) := ⟨x.a.toNat, by omega⟩
    obtain ⟨j, hj⟩ : ∃ j : Nat, x.b = (j : Int) := ⟨x.b.toNat, by omega⟩
    have hc := opAnd_q ha h.nf (f := i) (a := j) (F := den A.ns i) (G := den A.ns j) ⟨by omega, rfl⟩ ⟨by omega, rfl⟩
    rw [← hi, ← hj] at hc
    refine hc.mono (fun e w' hq => ?_)
    obtain ⟨nb2, cap2, A2, K2, T2, hm, hf, hr⟩ := hq.cases
    obtain ⟨r, q, he⟩ := hq.form
    refine ⟨r, q, nb2, A2, he, .inl ⟨?_, ?_⟩, h.asked hm hf, hb.asked hm, h.low hm⟩
    · simp only [inR, Bool.and_eq_true, decide_eq_true_eq]; omega
    · simp only [inR, Bool.and_eq_true, decide_eq_true_eq]; omega
  · refine (and_bad ha x.a x.b hx.a hx.b hv).mono (fun e w' hq => ?_)
    exact ⟨0, 1, nb, A, hq.1, .inr ⟨rfl, rfl⟩, h.below hq.2, hb.below hq.2, hq.2.mono hB⟩
theorem bp1_enters : ∀ (args : Array Value) (w' : World), (callFunc 21 args).run Try.prog w' = .ok (.enter 21 args) w' := enters_of Try.func21 (by kernel_rfl) rfl
theorem bp2_enters : ∀ (args : Array Value) (w' : World), (callFunc 22 args).run Try.prog w' = .ok (.enter 22 args) w' := enters_of Try.func22 (by kernel_rfl) rfl
set_option maxRecDepth 100000 in
theorem bp1_walk (c : Nat) (w : World) : Calls Try.prog 21 #[.int .i64 (c : Int)] w fun e w' => e = .returned (.bool false) ∧ RowKit.Below w.heap.size w w' := by
  go_enter Try.func21, Try.ntmps21
  go_wp2
  go_ret
  exact ⟨rfl, RowKit.Below.refl _ _⟩
set_option maxRecDepth 100000 in
theorem bp2_walk (c : Nat) (w : World) : Calls Try.prog 22 #[.int .i64 (c : Int)] w fun e w' => e = .returned (.bool true) ∧ RowKit.Below w.heap.size w w' := by
  go_enter Try.func22, Try.ntmps22
  go_wp2
  go_ret
  exact ⟨rfl, RowKit.Below.refl _ _⟩
set_option maxRecDepth 100000 in
set_option maxHeartbeats 8000000 in
theorem bddPlays_bad (vars most : Int) (A0 : Option Addr) (m c : Nat) (W : World) (hbad : ¬ ((1 ≤ vars ∧ vars ≤ 16) ∧ (2 ≤ most ∧ most ≤ 40000))) :
    Calls Try.prog 4 #[.int .i64 vars, .int .i64 most, .slice A0 m c] W (TrueP W) := by
  have HN := hide (new_bad2 W vars most (by omega))
  obtain ⟨b1, hb1⟩ : ∃ b, inR vars 1 16 = b := ⟨_, rfl⟩
  obtain ⟨b2, hb2⟩ : ∃ b, inR most 2 40000 = b := ⟨_, rfl⟩
  have H1 := hide (fun w => inR_is w hb1)
  have H2 := hide (fun w => inR_is w hb2)
  have hbb : ¬ (b1 = true ∧ b2 = true) := fun hh => hbad (by
    rw [← hb1, ← hb2] at hh
    simp only [inR, Bool.and_eq_true, decide_eq_true_eq] at hh
    omega)
  clear hbad hb1 hb2
  go_enter Try.func4, Try.ntmps4
  go_wp2_with fail
  refine HN.out.mono ?_
  rintro e w1 ⟨rfl, hb⟩
  have HF := hide hb
  clear hb HN
  cases b1 <;> cases b2
  case true.true => exact absurd ⟨rfl, rfl⟩ hbb
  all_goals
    go_wp2_with (first | (go_at_call_of 19 (Value.int .i64 16); refine (H1.out _).mono ?_; rintro e w' ⟨rfl, rfl⟩) | (go_at_call_of 19 (Value.int .i64 40000); refine (H2.out _).mono ?_; rintro e w' ⟨rfl, rfl⟩))
    go_ret
    exact ⟨rfl, HF.out⟩
end Go.Proofs.Ythaiffjalgionaa

set_option linter.unusedVariables false
set_option linter.unusedSimpArgs false
namespace Go.Proofs.Ythaiffjalgionaa
open Go.RowKit Go.Maps Bdd Bq

theorem Try.infoSeen : (Try.prog.info? 59).map (fun i => (i.zero, i.size, i.bytes)) = some (some (.agg #[.int .i64 0, .slice none 0 0]), 2, 32) := by kernel_rfl
theorem mod_get {l : List SeenV} (h0 : 0 < l.length) (i : Int) : ∃ a, l[(i % (l.length : Int)).toNat]? = some a := by
  have h1 := Int.emod_nonneg i (b := (l.length : Int)) (by omega)
  have h2 := Int.emod_lt_of_pos i (b := (l.length : Int)) (by omega)
  exact ⟨_, List.getElem?_eq_getElem (by omega)⟩
theorem reads_two (w : World) (u v : Value) (t : TypeId) : Reads (w.alloc (.cells #[u, v] t)) (w.heap.size + 1) 2 (some ⟨w.heap.size, 0, none⟩) 1 [u, v] :=
  ⟨rfl, fun _ => ⟨⟨w.heap.size, 0, none⟩, rfl, Nat.lt_succ_self _, fun j x hx => by
    have := (BoxV.new w #[u, v] t).1 j x (by simpa using hx)
    rw [addr_add]
    simpa using this⟩⟩
theorem new_seen {w5 w6 w7 : World} {B g nb kb ib vars most n N c nb2 cap2 r Nt k : Nat} {A A2 : St} {l : List SeenV} {K2 T2 : Tri → Option Value} {x : OpV} {a b d : SeenV} {G : Nat → Bool} (h5 : KAt w5 B g nb kb ib vars most n N c A l) (hn : 2 ^ vars = n) (h8 : vars ≤ 8) (ha : a ∈ l) (hb : b ∈ l) (hd : d ∈ l) (hT : toldF vars a b d x = some G) (ht : TabAt w6 Nt n n G) (hlo : w5.heap.size ≤ Nt)
    (hm : MS w6 B g nb kb ib A k w7 nb2 cap2 A2 K2 T2) (hr : IsF A2 r (opF x (den A.ns a.id) (den A.ns b.id) (den A.ns d.id))) : TabAt w7 Nt n n G ∧ ¬ Fp g nb2 kb ib Nt ∧ Nt ≠ N ∧ TabOk A2 n ⟨r, Nt, G⟩ := by
  obtain ⟨cap, K, T, har⟩ := h5.ar
  obtain ⟨l1, l2, l3, l4, _⟩ := har.lts
  have ho : ¬ Fp g nb kb ib Nt := fun hF => by rcases hF with e | e | e | e <;> omega
  refine ⟨ht.frm hm.fm ho, fp_new hm.nbc ht.lt ho, by have := h5.lt.1; omega, hr.1, fun i hi => ?_⟩
  show den A2.ns r (asgV A2.vars i) = G i
  rw [hr.2, hm.ext.vars, h5.v]
  have q : ∀ s ∈ l, ∀ i, i < 2 ^ vars → den A.ns s.id (asgV vars i) = s.F i := fun s hs i hi => by
    have := (h5.tab s hs).2.2.2.2 i (by omega)
    rwa [h5.v] at this
  have hB := den_below h5.inv.ok _ (h5.tab a ha).2.2.2.1
  rw [h5.v] at hB
  exact toldF_op h8 hB (q a ha) (q b hb) (q d hd) hT i (by omega)
set_option maxRecDepth 100000 in
set_option maxHeartbeats 16000000 in
theorem bddPlays_good (vars most : Nat) (A0 : Option Addr) (m c : Nat) (L : List OpV) (W : World) (h1 : 1 ≤ vars) (h16 : vars ≤ 16) (h2 : 2 ≤ most) (h4 : most ≤ 40000) (hl : SlAt OpV.cells 4 W W.heap.size A0 m L) (hok : ∀ r ∈ L, r.ok) (hnc : m ≤ c ∧ c ≤ maxLen) :
    Calls Try.prog 4 #[.int .i64 vars, .int .i64 most, .slice A0 m c] W (TrueP W) := by
  have HN := hide (new_walk W vars most h1 h16 h2 h4)
  have H1 := hide (fun w => inR_is (n := (vars : Int)) (lo := 1) (hi := 16) (B := true) w (by simp [inR]; omega))
  have H2 := hide (fun w => inR_is (n := (most : Int)) (lo := 2) (hi := 40000) (B := true) w (by simp [inR]; omega))
  have HL := hide hl
  have HOK := hide hok
  clear hl hok
  have hm1 : m ≤ 9223372036854775807 := by have := hnc.2; unfold maxLen at this; omega
  clear hnc
  go_enter Try.func4, Try.ntmps4
  go_wp2_with fail
  refine HN.out.mono ?_
  rintro e w1 ⟨g, nb, kb, ib, rfl, hA, hb⟩
  have HB1 := hide hb
  have HA1 := hide hA
  clear hb hA HN
  by_cases h8 : 8 < vars
  case pos =>
    go_wp2_with (first | (go_at_call_of 19 (Value.int .i64 16); refine (H1.out _).mono ?_; rintro e w' ⟨rfl, rfl⟩) | (go_at_call_of 19 (Value.int .i64 40000); refine (H2.out _).mono ?_; rintro e w' ⟨rfl, rfl⟩))
    go_ret
    exact ⟨rfl, HB1.out⟩
  by_cases hm40 : 40 < m
  case pos =>
    go_wp2_with (first | (go_at_call_of 19 (Value.int .i64 16); refine (H1.out _).mono ?_; rintro e w' ⟨rfl, rfl⟩) | (go_at_call_of 19 (Value.int .i64 40000); refine (H2.out _).mono ?_; rintro e w' ⟨rfl, rfl⟩))
    go_ret
    exact ⟨rfl, HB1.out⟩
  obtain ⟨n, hn⟩ : ∃ n, 2 ^ vars = n := ⟨_, rfl⟩
  have HM1 := hide (fun w => table_walk vars n (by omega) hn 21 #[] (fun _ => false) w bp1_enters (hide (fun c0 w0 _ _ => bp1_walk c0 w0)))
  have HM2 := hide (fun w => table_walk vars n (by omega) hn 22 #[] (fun _ => true) w bp2_enters (hide (fun c0 w0 _ _ => bp2_walk c0 w0)))
  have HNN := hide hn
  clear hn
  go_wp2_with (first | (go_at_call_of 19 (Value.int .i64 16); refine (H1.out _).mono ?_; rintro e w' ⟨rfl, rfl⟩) | (go_at_call_of 19 (Value.int .i64 40000); refine (H2.out _).mono ?_; rintro e w' ⟨rfl, rfl⟩) | fail)
  refine (HM1.out w1).mono ?_
  clear HM1
  rintro e w2 ⟨N1, rfl, ht1, hN1, hb2⟩
  go_wp2_with fail
  refine (HM2.out w2).mono ?_
  clear HM2
  rintro e w3 ⟨N2, rfl, ht2, hN2, hb3⟩
  go_wp2_with fail
  have hs1 := HB1.out.size
  have hs2 := hb2.size
  have hs3 := hb3.size
  have HK0 := hide (KAt.start (HA1.out.below (hb2.trans (hb3.mono hb2.size))) (ht1.below hb3) ht2 (fun h => by
    obtain ⟨l1, l2, l3, l4, _⟩ := HA1.out.lts
    rcases h with e | e | e | e <;> omega) (fun h => by
    obtain ⟨l1, l2, l3, l4, _⟩ := HA1.out.lts
    rcases h with e | e | e | e <;> omega) (by omega))
  have HBK := hide (HB1.out.trans ((hb2.trans ((hb3.trans ((below_alloc w3 (.cells #[.int .i64 0, .slice (some ⟨N1, 0, none⟩) n n, .int .i64 1, .slice (some ⟨N2, 0, none⟩) n n] 59)).mono hs3)).mono hs2)).mono hs1))
  clear ht1 ht2 hb2 hb3 hN1 hN2 HA1 HB1 hs1 hs2 hs3 H1 H2
  obtain ⟨N, hN⟩ : ∃ N, w3.heap.size = N := ⟨_, rfl⟩
  rw [hN] at HK0
  rw [hN]
  clear hN
  generalize World.alloc w3 _ = w4 at *
  go_loopw [9, 72] (fun kn i wr => ∃ (k nb N c : Nat) (A : St) (l : List SeenV), k ≤ m ∧ i = .int .i64 (k : Int) ∧ kn = .slice (some ⟨N, 0, none⟩) l.length c ∧ l.length ≤ 2 + k ∧ 0 < l.length ∧ Hid (KAt wr W.heap.size g nb kb ib vars most n N c A l) ∧ Hid (RowKit.Below W.heap.size W wr)) (fun _ i _ => m - (intOf i).toNat)
  case atStart => exact ⟨0, nb, N, 2, newSt vars most, _, Nat.zero_le _, rfl, rfl, Nat.le_refl _, by simp, HK0, HBK⟩
  case round =>
    clear HK0 HBK
    obtain ⟨k, nb, N, c, A, l, hk, rfl, rfl, hl1, hl2, HK, HB⟩ := hrel
    by_cases hlt : k < m
    case neg =>
      go_wp2
      go_ret
      exact ⟨rfl, HB.out⟩
    obtain ⟨x, hx⟩ : ∃ x, L[k]? = some x := ⟨_, List.getElem?_eq_getElem (by have := HL.out.1; omega)⟩
    have hsl := HL.out.below HB.out HB.out.size
    obtain ⟨bA, oA, rfl, hbB, _⟩ := hsl.2 (by omega)
    obtain ⟨q0, q1, q2, q3⟩ := op_cells hsl hx
    have HXK := hide (HOK.out x (List.mem_of_getElem? hx))
    clear hx hsl hbB
    by_cases h7 : x.k = 7
    case pos =>
      have e7 : (x.k == 7) = true := by simpa using h7
      clear h7
      have hab := HK.out.box #[.int .i64 x.k, .int .i64 x.a, .int .i64 x.b, .int .i64 x.c] 62
      have HBX := hide (HB.out.trans ((below_alloc wr (.cells #[.int .i64 x.k, .int .i64 x.a, .int .i64 x.b, .int .i64 x.c] 62)).mono HB.out.size))
      go_wp2_with fail
      obtain ⟨NX, hNX⟩ : ∃ NX, wr.heap.size = NX := ⟨_, rfl⟩
      rw [hNX] at hab
      rw [hNX]
      clear hNX
      generalize World.alloc wr _ = w5 at *
      have HK5 := hide hab.1
      have HX5 := hide hab.2
      clear hab HB HK q0 q1 q2 q3
      obtain ⟨cap5, K5, T5, ha5⟩ := HK5.out.ar
      have HS := hide (opSize_walk ha5)
      have hlen5 := ha5.lenle
      have HAS := hide (and_step HK5.out x HXK.out HX5.out HBX.out.size)
      have x1 : w5.cell? ⟨NX, 1, none⟩ = some (.int .i64 x.a) := HX5.out.b.1 1 _ rfl
      have x2 : w5.cell? ⟨NX, 2, none⟩ = some (.int .i64 x.b) := HX5.out.b.1 2 _ rfl
      clear ha5
      refine HS.out.mono ?_
      clear HS
      rintro e w6 ⟨rfl, rfl⟩
      go_wp2_with fail
      refine HAS.out.mono ?_
      clear HAS x1 x2
      rintro e w7 ⟨r, q, nb2, A2, rfl, hcase, hk7, hx7, hb7⟩
      have HK7 := hide hk7
      have x1 : w7.cell? ⟨NX, 1, none⟩ = some (.int .i64 x.a) := hx7.b.1 1 _ rfl
      have x2 : w7.cell? ⟨NX, 2, none⟩ = some (.int .i64 x.b) := hx7.b.1 2 _ rfl
      have HB7 := hide (HBX.out.trans hb7)
      clear hk7 hx7 hb7 HBX HK5 HX5
      obtain ⟨ln, hln⟩ : ∃ ln, A.ns.length = ln := ⟨_, rfl⟩
      rw [hln] at hcase hlen5
      rw [hln]
      clear hln
      obtain ⟨b1, hb1⟩ : ∃ b, inR x.a 0 ((ln : Int) - 1) = b := ⟨_, rfl⟩
      obtain ⟨b2, hb2⟩ : ∃ b, inR x.b 0 ((ln : Int) - 1) = b := ⟨_, rfl⟩
      rw [hb1, hb2] at hcase
      have H1 := hide (fun w => inR_is w hb1)
      have H2 := hide (fun w => inR_is w hb2)
      clear hb1 hb2
      cases b1 <;> cases b2
      case true.true =>
        clear hcase
        go_wp2_with (first | (go_at_call_of 19 (Value.int .i64 x.a); refine (H1.out _).mono ?_; rintro e w' ⟨rfl, rfl⟩) | (go_at_call_of 19 (Value.int .i64 x.b); refine (H2.out _).mono ?_; rintro e w' ⟨rfl, rfl⟩))
        go_roundw
        case rel => exact ⟨k + 1, nb2, N, c, A2, l, by omega, by go_num, rfl, by omega, hl2, HK7, HB7⟩
        case measure => simp [intOf]; omega
      all_goals
        obtain ⟨rfl, rfl⟩ : r = 0 ∧ q = 1 := by simpa using hcase
        clear hcase
        go_wp2_with (first | (go_at_call_of 19 (Value.int .i64 x.a); refine (H1.out _).mono ?_; rintro e w' ⟨rfl, rfl⟩) | (go_at_call_of 19 (Value.int .i64 x.b); refine (H2.out _).mono ?_; rintro e w' ⟨rfl, rfl⟩))
        go_roundw
        case rel => exact ⟨k + 1, nb2, N, c, A2, l, by omega, by go_num, rfl, by omega, hl2, HK7, HB7⟩
        case measure => simp [intOf]; omega
    have e7 : (x.k == 7) = false := by simpa using h7
    have H7 := hide h7
    clear h7
    by_cases hr : 0 ≤ x.k ∧ x.k ≤ 6
    case neg =>
      have hab := HK.out.box #[.int .i64 x.k, .int .i64 x.a, .int .i64 x.b, .int .i64 x.c] 62
      have HBX := hide (HB.out.trans ((below_alloc wr (.cells #[.int .i64 x.k, .int .i64 x.a, .int .i64 x.b, .int .i64 x.c] 62)).mono HB.out.size))
      have HK5 := hide hab.1
      clear hab
      have h06 : x.k < 0 ∨ ¬ x.k < 0 ∧ 7 < x.k := by have := H7.out; omega
      clear hr HK HB
      rcases h06 with h06 | ⟨h06, h67⟩
      · go_wp2
        go_roundw
        case rel => exact ⟨k + 1, nb, N, c, A, l, by omega, by go_num, rfl, by omega, hl2, HK5, HBX⟩
        case measure => simp [intOf]; omega
      · have e06 : decide (x.k < 0) = false := by simpa using h06
        go_wp2
        go_roundw
        case rel => exact ⟨k + 1, nb, N, c, A, l, by omega, by go_num, rfl, by omega, hl2, HK5, HBX⟩
        case measure => simp [intOf]; omega
    have e06 : decide (x.k < 0) = false := by simp; omega
    have e67 : decide (7 < x.k) = false := by simp; omega
    have HR := hide hr
    clear hr
    have hab := HK.out.box #[.int .i64 x.k, .int .i64 x.a, .int .i64 x.b, .int .i64 x.c] 62
    have HBX := hide (HB.out.trans ((below_alloc wr (.cells #[.int .i64 x.k, .int .i64 x.a, .int .i64 x.b, .int .i64 x.c] 62)).mono HB.out.size))
    go_wp2_with fail
    clear e7 e06 e67
    obtain ⟨NX, hNX⟩ : ∃ NX, wr.heap.size = NX := ⟨_, rfl⟩
    rw [hNX] at hab
    rw [hNX]
    clear hNX
    generalize World.alloc wr _ = w5 at *
    have HK5 := hide hab.1
    have HX5 := hide hab.2
    clear hab HB HK q0 q1 q2 q3
    obtain ⟨a, ha⟩ := mod_get hl2 x.a
    obtain ⟨b, hb⟩ := mod_get hl2 x.b
    obtain ⟨d, hd⟩ := mod_get hl2 x.c
    have HM := hide (And.intro (List.mem_of_getElem? ha) (And.intro (List.mem_of_getElem? hb) (List.mem_of_getElem? hd)))
    have h8' : vars ≤ 8 := by omega
    have HTW := hide (told_walk vars n l.length c (some ⟨N, 0, none⟩) l x w5 h1 h8' HNN.out HK5.out.sl hl2 (by omega) HXK.out HR.out a b d ha hb hd (hide (fun w' hbw => ⟨(HK5.out.tab a HM.out.1).1.below hbw, (HK5.out.tab b HM.out.2.1).1.below hbw, (HK5.out.tab d HM.out.2.2).1.below hbw⟩)))
    clear ha hb hd
    refine HTW.out.mono ?_
    clear HTW
    rintro e w6 ⟨hb6, tv, iv, okv, rfl, hI, hm⟩
    have HB6 := hide (HBX.out.trans (hb6.mono HBX.out.size))
    have HK6 := hide (HK5.out.below hb6)
    have HX6 := hide (HX5.out.below hb6)
    have x0 : w6.cell? ⟨NX, 0, none⟩ = some (.int .i64 x.k) := HX6.out.b.1 0 _ rfl
    have x1 : w6.cell? ⟨NX, 1, none⟩ = some (.int .i64 x.a) := HX6.out.b.1 1 _ rfl
    have x2 : w6.cell? ⟨NX, 2, none⟩ = some (.int .i64 x.b) := HX6.out.b.1 2 _ rfl
    have x3 : w6.cell? ⟨NX, 3, none⟩ = some (.int .i64 x.c) := HX6.out.b.1 3 _ rfl
    clear hb6 HX5 HX6 HBX
    obtain ⟨cap6, K6, T6, ha6⟩ := HK6.out.ar
    rcases hT : toldF vars a b d x with _ | G
    · rw [hT] at hm
      obtain ⟨rfl, rfl⟩ := hm
      have HAS := hide (show Calls Try.prog 26 #[.pointer (some ⟨g, 0, none⟩), iv, .agg #[.int .i64 x.k, .int .i64 x.a, .int .i64 x.b, .int .i64 x.c]] w6 (BadP w6) from asked_none ha6 HK6.out.v x HXK.out HR.out ((HK6.out.tab a HM.out.1).2.2.2.1) hI hT)
      clear ha6 hI hT
      go_wp2_with fail
      refine HAS.out.mono ?_
      clear HAS x0 x1 x2 x3
      rintro e w7 ⟨rfl, hb7⟩
      have HK7 := hide (HK6.out.below hb7)
      have HB7 := hide (HB6.out.trans (hb7.mono HB6.out.size))
      clear hb7 HK5 HK6 HB6
      go_wp2
      go_roundw
      case rel => exact ⟨k + 1, nb, N, c, A, l, by omega, by go_num, rfl, by omega, hl2, HK7, HB7⟩
      case measure => simp [intOf]; omega
    rw [hT] at hm
    obtain ⟨rfl, Nt, rfl, ht, hlo⟩ := hm
    have HAS := hide (show Calls Try.prog 26 #[.pointer (some ⟨g, 0, none⟩), iv, .agg #[.int .i64 x.k, .int .i64 x.a, .int .i64 x.b, .int .i64 x.c]] w6 (OpQ w6 W.heap.size g nb kb ib A (opF x (den A.ns a.id) (den A.ns b.id) (den A.ns d.id)) (askedK A.vars)) from asked_ok ha6 HK6.out.nf HK6.out.v x HXK.out HR.out ⟨(HK6.out.tab a HM.out.1).2.2.2.1, rfl⟩ ⟨(HK6.out.tab b HM.out.2.1).2.2.2.1, rfl⟩ ⟨(HK6.out.tab d HM.out.2.2).2.2.2.1, rfl⟩ hI hT)
    have HT := hide (And.intro hT (And.intro ht hlo))
    clear ha6 hI hT ht hlo
    go_wp2_with fail
    refine HAS.out.mono ?_
    clear HAS x0 x1 x2 x3
    rintro e w7 hq
    obtain ⟨nb2, cap2, A2, K2, T2, hms, hnf, hq⟩ := hq.cases
    have HB7 := hide (HB6.out.trans (HK6.out.low hms))
    have HK7 := hide (HK6.out.asked hms hnf)
    have HS := hide (opSize_walk hms.ar)
    rcases hq with ⟨r, rfl, hisF⟩ | ⟨rfl, hfull⟩
    case inr =>
      have hsz : A2.ns.length = most := by rw [← HK7.out.m]; exact hfull
      rw [hsz] at HS
      clear hsz hfull hms hnf HK5 HK6 HB6 HT
      go_wp2_with (go_at_call 23; refine HS.out.mono ?_; rintro e w' ⟨rfl, rfl⟩)
      go_roundw
      case rel => exact ⟨k + 1, nb2, N, c, A2, l, by omega, by go_num, rfl, by omega, hl2, HK7, HB7⟩
      case measure => simp [intOf]; omega
    have HNS := hide (new_seen HK5.out HNN.out h8' HM.out.1 HM.out.2.1 HM.out.2.2 HT.out.1 HT.out.2.1 HT.out.2.2 hms hisF)
    have HRT := hide (show Calls Try.prog 27 #[.pointer (some ⟨g, 0, none⟩), .int .i64 (vars : Int), .int .i64 (r : Int), .slice (some ⟨Nt, 0, none⟩) n n] w7 (fun e W' => e = .returned (.bool true) ∧ RowKit.Below w7.heap.size w7 W') from by
      have := rightT_walk hms.ar HB7.out.size r n Nt G hisF.1 (by rw [HK7.out.v]; exact h8') (by rw [HK7.out.v]; exact HNN.out) HNS.out.1 (hide (fun i hi => HNS.out.2.2.2.2 i hi))
      rwa [HK7.out.v] at this)
    clear hms hnf HK5 HK6 HB6 HT HS hisF
    go_wp2_with fail
    refine HRT.out.mono ?_
    clear HRT
    rintro e w8 ⟨rfl, hb8⟩
    have HK8 := hide (HK7.out.below hb8)
    have HB8 := hide (HB7.out.trans (hb8.mono HB7.out.size))
    have HN8 := hide (And.intro (HNS.out.1.below hb8) HNS.out.2)
    clear hb8 HK7 HB7 HNS
    go_wp2_with fail
    have hl42 : l.length ≤ 42 := by omega
    go_loopw [169] (fun i wq => ∃ j : Nat, j ≤ l.length ∧ i = .int .i64 (j : Int) ∧ Hid (RowKit.Below w8.heap.size w8 wq)) (fun i _ => l.length - (intOf i).toNat)
    case atStart => exact ⟨0, Nat.zero_le _, rfl, hide (RowKit.Below.refl _ _)⟩
    case round =>
      obtain ⟨j, hj, rfl, HQ⟩ := hrel
      have HK9 := hide (HK8.out.below HQ.out)
      have HB9 := hide (HB8.out.trans (HQ.out.mono HB8.out.size))
      have HN9 := hide (And.intro (HN8.out.1.below HQ.out) HN8.out.2)
      clear HK8 HB8 HN8
      by_cases hjl : j < l.length
      case neg =>
        obtain ⟨i0, hi0, hz0, hz1, hz2⟩ := info_parts Try.infoSeen
        have hal := below_alloc wr (.cells #[.int .i64 (r : Int), .slice (some ⟨Nt, 0, none⟩) n n] 59)
        have HKA := hide (HK9.out.below hal)
        have HBA := hide (HB9.out.trans (hal.mono HB9.out.size))
        have HNA := hide (HN9.out.1.below hal)
        have hrd := reads_two wr (.int .i64 (r : Int)) (.slice (some ⟨Nt, 0, none⟩) n n) 59
        clear hal
        go_wp2_with (at_builtin; refine wpList_append_any _ rfl (.tmp 183) (.tmp 187) 60 rfl W.heap.size 59 i0 _ 2 32 Try.underlying60 hi0 hz0 hz1 hz2 rfl (by omega) (.slice (some ⟨N, 0, none⟩) l.length c) l.length (l.flatMap (SeenV.cells n)) rfl HKA.out.own (wr.heap.size + 1) (some ⟨wr.heap.size, 0, none⟩) 1 1 [.int .i64 (r : Int), .slice (some ⟨Nt, 0, none⟩) n n] rfl hrd (by simp [Value.oneCell']) (by unfold maxLen; omega) (by omega) HBA.out.size ?_; intro v5 w5a hown5 hg5 hat5)
        obtain ⟨N2, c2, rfl, _⟩ := hown5.form (by omega)
        have hat : N2 = N ∨ N2 = (wr.alloc (.cells #[.int .i64 (r : Int), .slice (some ⟨Nt, 0, none⟩) n n] 59)).heap.size := by
          rcases hat5 with e | e
          · exact .inl (Option.some.inj e)
          · exact .inr (Option.some.inj e)
        have hadd := HKA.out.add (s := ⟨r, Nt, G⟩) HNA.out HN9.out.2.1 HN9.out.2.2.1 HN9.out.2.2.2 hown5 hg5 hat
        have hlast : RowKit.Below W.heap.size W w5a := HBA.out.grown hg5 HBA.out.size (fun q e => by
          have := HKA.out.lt.2
          have e' : N = q := Option.some.inj e
          omega)
        refine ⟨⟨k + 1, nb2, N2, c2, A2, l ++ [⟨r, Nt, G⟩], by omega, by go_num, by simp, by simp; omega, by simp, hide hadd, hide hlast⟩, by simp [intOf]; omega⟩
      obtain ⟨s, hs⟩ : ∃ s, l[j]? = some s := ⟨_, List.getElem?_eq_getElem hjl⟩
      obtain ⟨_, hg⟩ := HK9.out.sl.get hs
      have y0 : wr.cell? ⟨N, 0 + j * 2, none⟩ = some (.int .i64 (s.id : Int)) := hg 0 _ rfl
      have y1 : wr.cell? ⟨N, 0 + j * 2 + 1, none⟩ = some (.slice (some ⟨s.N, 0, none⟩) n n) := hg 1 _ rfl
      have z0 : wr.cell? ⟨N, j * 2, none⟩ = some (.int .i64 (s.id : Int)) := by rw [Nat.zero_add] at y0; exact y0
      have z1 : wr.cell? ⟨N, j * 2 + 1, none⟩ = some (.slice (some ⟨s.N, 0, none⟩) n n) := by rw [Nat.zero_add] at y1; exact y1
      clear hg
      have hab := HK9.out.box #[.int .i64 (s.id : Int), .slice (some ⟨s.N, 0, none⟩) n n] 59
      have HBA := hide (below_alloc wr (.cells #[.int .i64 (s.id : Int), .slice (some ⟨s.N, 0, none⟩) n n] 59))
      go_wp2_with fail
      obtain ⟨NY, hNY⟩ : ∃ NY, wr.heap.size = NY := ⟨_, rfl⟩
      rw [hNY] at hab
      rw [hNY]
      have hNY2 := Nat.le_of_eq hNY
      generalize World.alloc wr _ = w9 at *
      have hsm := List.mem_of_getElem? hs
      have hid : decide (s.id = r) = eqTab n s.F G := same_id (r := ⟨r, Nt, G⟩) HK9.out.inv (by rw [HK9.out.v]; exact HNN.out) ((HK9.out.tab s hsm).2.2.2) HN9.out.2.2.2
      obtain ⟨bb, hbb⟩ : ∃ bb, eqTab n s.F G = bb := ⟨_, rfl⟩
      have HE := hide (fun (w' : World) (hb : RowKit.Below w9.heap.size w9 w') => equalTab_walk n s.N Nt s.F G w' (by rw [← HNN.out]; exact pow8 h8') ((HK9.out.tab s hsm).1.below (HBA.out.trans (hb.mono HBA.out.size))) (HN9.out.1.below (HBA.out.trans (hb.mono HBA.out.size))))
      rw [hbb] at hid HE
      have hid2 : ((s.id : Int) == (r : Int)) = bb := by
        rw [← hid, Bool.eq_iff_iff, beq_iff_eq, decide_eq_true_eq]
        omega
      have HQ9 := hide (HQ.out.trans (HBA.out.mono HQ.out.size))
      have HX9 := hide (fun (w' : World) (hb : RowKit.Below w9.heap.size w9 w') => show w'.cell? ⟨NY, 0, none⟩ = some (.int .i64 (s.id : Int)) ∧ w'.cell? ⟨NY, 1, none⟩ = some (.slice (some ⟨s.N, 0, none⟩) n n) from ⟨(hab.2.below hb).b.1 0 _ rfl, (hab.2.below hb).b.1 1 _ rfl⟩)
      clear hab hid hbb hNY hNY2 y0 y1 z0 z1 hs HBA HK9 HB9 HN9 HQ
      refine wp_region_E (fun w' => RowKit.Below w9.heap.size w9 w') 8 (by kernel_rfl) ((RowKit.Below.refl _ _).drew) (fun hS inv => ?_)
      refine wpAnyE_pure (i := 0) (v := ?_) rfl (by kernel_rfl) (by kernel_rfl) (by kernel_rfl) (by kernel_rfl) (fun _ _ _ h => h) inv (Or.inl ⟨by rfl, ?_⟩) (fun _ => hS) (fun inv2 => ?_)
      rotate_left
      · intro w _
        go_simp
        try with_reducible rfl
      clear inv
      have inv := inv2
      clear inv2
      try simp only [Act.put, nrmA, nrmB, nrmC]
      refine wpAnyE_load (i := 1) (v := ?_) [3, 8] rfl (by kernel_rfl) (by kernel_rfl) (by kernel_rfl) (by kernel_rfl) (fun _ _ _ h => h) inv (Or.inl ⟨by rfl, ?_⟩) hS (fun inv2 => ?_)
      rotate_left
      · intro w hSw
        obtain ⟨s0, s1⟩ := HX9.out _ hSw
        go_simp
        try with_reducible rfl
      clear inv
      have inv := inv2
      clear inv2
      try simp only [Act.put, nrmA, nrmB, nrmC]
      refine wpAnyE_pure (i := 2) (v := ?_) rfl (by kernel_rfl) (by kernel_rfl) (by kernel_rfl) (by kernel_rfl) (fun _ _ _ h => h) inv (Or.inl ⟨by rfl, ?_⟩) (fun _ => hS) (fun inv2 => ?_)
      rotate_left
      · intro w _
        go_simp
        try with_reducible rfl
      clear inv
      have inv := inv2
      clear inv2
      try simp only [Act.put, nrmA, nrmB, nrmC]
      refine wpAnyE_pure (i := 3) (v := ?_) rfl (by kernel_rfl) (by kernel_rfl) (by kernel_rfl) (by kernel_rfl) (fun _ _ _ h => h) inv (Or.inl ⟨by rfl, ?_⟩) (fun _ => hS) (fun inv2 => ?_)
      rotate_left
      · intro w _
        go_simp
        try with_reducible rfl
      clear inv
      have inv := inv2
      clear inv2
      try simp only [Act.put, nrmA, nrmB, nrmC]
      refine wpAnyE_pure (i := 4) (v := ?_) rfl (by kernel_rfl) (by kernel_rfl) (by kernel_rfl) (by kernel_rfl) (fun _ _ _ h => h) inv (Or.inl ⟨by rfl, ?_⟩) (fun _ => hS) (fun inv2 => ?_)
      rotate_left
      · intro w _
        go_simp
        try with_reducible rfl
      clear inv
      have inv := inv2
      clear inv2
      try simp only [Act.put, nrmA, nrmB, nrmC]
      refine wpAnyE_load (i := 5) (v := ?_) [7, 8] rfl (by kernel_rfl) (by kernel_rfl) (by kernel_rfl) (by kernel_rfl) (fun _ _ _ h => h) inv (Or.inl ⟨by rfl, ?_⟩) hS (fun inv2 => ?_)
      rotate_left
      · intro w hSw
        obtain ⟨s0, s1⟩ := HX9.out _ hSw
        go_simp
        try with_reducible rfl
      clear inv
      have inv := inv2
      clear inv2
      try simp only [Act.put, nrmA, nrmB, nrmC]
      refine wpAnyE_pure (i := 6) (v := ?_) rfl (by kernel_rfl) (by kernel_rfl) (by kernel_rfl) (by kernel_rfl) (fun _ _ _ h => h) inv (Or.inl ⟨by rfl, ?_⟩) (fun _ => hS) (fun inv2 => ?_)
      rotate_left
      · intro w _
        go_simp
        try with_reducible rfl
      clear inv
      have inv := inv2
      clear inv2
      try simp only [Act.put, nrmA, nrmB, nrmC]
      refine wpAnyE_one (i := 7) rfl (by kernel_rfl) inv (fun K hK => ?_)
      go_simp
      refine (HE.out _ hS).mono ?_
      rintro e wz ⟨rfl, hbz⟩
      have hSz := hS.trans (hbz.mono hS.size)
      clear hbz
      have HWZ := hide (HQ9.out.trans (hSz.mono HQ9.out.size))
      go_simp
      refine hK.out _ _ (fun _ => hSz) (fun inv2 => ?_)
      clear hK K hS
      clear inv
      have inv := inv2
      clear inv2
      try simp only [Act.put, nrmA, nrmB, nrmC]
      have hS := hSz
      refine wpAnyE_late (i := 8) rfl (by kernel_rfl) inv (by kernel_rfl) (fun K hK => ?_)
      go_simp
      refine hK.out _ _ (fun inv2 => ?_)
      clear hK K
      clear inv
      have inv := inv2
      clear inv2
      try simp only [Act.put, nrmA, nrmB, nrmC]
      refine wpAnyE_done (by kernel_rfl) ?_ _
      clear inv
      clear hS hSz HX9 HE
      go_wp2
      go_roundw
      case rel => exact ⟨j + 1, by omega, by go_num, HWZ⟩
      case measure => simp [intOf]; omega
end Go.Proofs.Ythaiffjalgionaa

set_option linter.unusedVariables false
set_option linter.unusedSimpArgs false
namespace Go.Proofs.Ythaiffjalgionaa
open Go.RowKit

abbrev Pl := Int × Int
end Go.Proofs.Ythaiffjalgionaa

set_option linter.unusedVariables false
set_option linter.unusedSimpArgs false
namespace Go.Proofs.Ythaiffjalgionaa
open Go.ChangeShapes Go.WideShapes Go.ChangeAt Go.RowKit Go.Joins Go.Deep

section
variable {H : Type} {enc : TypeId × Value → H} {w : World} {base : Nat} {spare : Nat → Bool} {held : Bool} {r : Reach} {b0 : Nat}

theorem cellsI1 : Try.prog.cellsOf 3 = 1 := by kernel_rfl
end
end Go.Proofs.Ythaiffjalgionaa

set_option linter.unusedVariables false
set_option linter.unusedSimpArgs false
namespace Go.Proofs.Ythaiffjalgionaa
open Go.ChangeShapes Go.WideShapes Go.ChangeAt Go.RowKit Go.Maps

section
variable {H : Type} {enc : TypeId × Value → H} {w : World} {base : Nat} {spare : Nat → Bool} {held : Bool} {r : Reach} {b0 : Nat}
theorem Try.cellsOp4 : Try.prog.cellsOf 62 = 4 := by kernel_rfl
set_option maxRecDepth 100000 in
theorem read_op {n : Nat} {cs : List Value} {y : DataW H × List MemPlace} (h : DataW.trod enc Try.prog w base spare held n 62 cs = some y) : ∃ p : OpV, p.ok ∧ cs = p.cells := by
  obtain ⟨xs, n', _, _, hlen, hxl, hf⟩ := DataW.trod_struct Try.underlying62 h
  rw [Try.cellsOp4] at hlen
  match cs, hlen with
  | [c0, c1, c2, c3], _ =>
    have h0 := hf 0 _ rfl
    have h1 := hf 1 _ rfl
    have h2 := hf 2 _ rfl
    have h3 := hf 3 _ rfl
    obtain ⟨y0, e0⟩ := get_some (xs := xs) (i := 0) (by rw [hxl]; decide)
    obtain ⟨y1, e1⟩ := get_some (xs := xs) (i := 1) (by rw [hxl]; decide)
    obtain ⟨y2, e2⟩ := get_some (xs := xs) (i := 2) (by rw [hxl]; decide)
    obtain ⟨y3, e3⟩ := get_some (xs := xs) (i := 3) (by rw [hxl]; decide)
    rw [e0] at h0
    rw [e1] at h1
    rw [e2] at h2
    rw [e3] at h3
    simp [cellsI1] at h0 h1 h2 h3
    obtain ⟨a, rfl, ha⟩ := trod_i64 h0
    obtain ⟨b, rfl, hb⟩ := trod_i64 h1
    obtain ⟨c, rfl, hc⟩ := trod_i64 h2
    obtain ⟨d, rfl, hd⟩ := trod_i64 h3
    exact ⟨⟨a, b, c, d⟩, ⟨ha, hb, hc, hd⟩, rfl⟩
set_option maxRecDepth 100000 in
theorem open_ops {v : Value} {d : DataW H} {p : List MemPlace} (hv : Value.okWide Try.prog w r b0 49 v) (h : DataW.Trod enc Try.prog w base spare held 49 v d p) :
    ∃ (A : Option Addr) (n c : Nat) (l : List OpV), v = .slice A n c ∧ n ≤ c ∧ c ≤ maxLen ∧ SlAt OpV.cells 4 w w.heap.size A n l ∧ (∀ r ∈ l, r.ok) ∧ (n = 0 ∨ ∃ elems sp, d = .slice elems sp ∧ elems.length = n) :=
  open_elems OpV.cells OpV.ok 4 Try.underlying49 Try.cellsOp4 (by omega) OpV.len (fun _ _ _ h => read_op h) hv h
end
theorem bddPlays_walk (vars most : Int) (A0 : Option Addr) (m c : Nat) (L : List OpV) (W : World) (hl : SlAt OpV.cells 4 W W.heap.size A0 m L) (hok : ∀ r ∈ L, r.ok) (hnc : m ≤ c ∧ c ≤ maxLen) :
    Calls Try.prog 4 #[.int .i64 vars, .int .i64 most, .slice A0 m c] W (TrueP W) := by
  by_cases h : (1 ≤ vars ∧ vars ≤ 16) ∧ (2 ≤ most ∧ most ≤ 40000)
  · obtain ⟨⟨h1, h2⟩, h3, h4⟩ := h
    obtain ⟨v, rfl⟩ : ∃ v : Nat, vars = (v : Int) := ⟨vars.toNat, by omega⟩
    obtain ⟨t, rfl⟩ : ∃ v : Nat, most = (v : Int) := ⟨most.toNat, by omega⟩
    exact bddPlays_good v t A0 m c L W (by omega) (by omega) (by omega) (by omega) hl hok hnc
  · exact bddPlays_bad vars most A0 m c W h
end Go.Proofs.Ythaiffjalgionaa

set_option linter.unusedVariables false
set_option linter.unusedSimpArgs false
namespace Go.Proofs.Ythaiffjalgionaa
open Go.ChangeShapes Go.WideShapes Go.ChangeAt Go.RowKit Go.Maps

set_option maxRecDepth 100000 in
theorem bddPlays_lifted (os : Os) (started : os.Started) (H : Type) (enc : TypeId × Value → H) :
    ReturnsInHanded {} Try.checked os 4 .any (Rows.bddPlaysSpec.pre6 enc Try.prog Try.f4 Rows.bddPlaysRow.domain false) (Rows.bddPlaysSpec.post enc Try.prog Try.f4 false true false false) :=
  law_lifted (C := Try.checked) (tb := 4) Try.own started (by kernel_rfl) Try.func4 Try.laidOut (by kernel_rfl) rfl (by kernel_rfl) Try.underlying4
    (fun ds h => by
      match ds, h with
      | [_, _, _], _ => exact ⟨rfl, rfl, rfl⟩)
    (ChangeSpec.witness6 (enc := enc) (C := Try.checked) false ⟨#[], #[.int .i64 0, .int .i64 0, .slice none 0 0], []⟩ 8 (by kernel_rfl) (by kernel_rfl) (by kernel_rfl) (by kernel_rfl))
    (fun W base args ds p hval0 hA0 hlt hsz => by
      have hval : ∀ (j : Nat) t v, Try.f4.params[j]? = some t → args[j]? = some v → Value.okWide Try.prog W .any base t v := hval0
      have hA : DataW.TrodAll enc Try.prog W 0 (fun _ => true) true Try.f4.params.toList args.toList ds p := hA0
      rw [Try.params4] at hA hval
      obtain ⟨v0, vs0, d0, ds0, p0, q0, hargs, rfl, rfl, h0, r0⟩ := args_cons hA
      obtain ⟨v1, vs1, d1, ds1, p1, q1, rfl, rfl, rfl, h1, r1⟩ := args_cons r0
      obtain ⟨v2, vs2, d2, ds2, p2, q2, rfl, rfl, rfl, h2, r2⟩ := args_cons r1
      obtain ⟨rfl, rfl, rfl⟩ := args_nil r2
      obtain rfl : args = #[v0, v1, v2] := arr_eq hargs
      obtain ⟨x0, rfl, hx0⟩ := open_i64 (hval 0 _ v0 rfl rfl) h0
      obtain ⟨x1, rfl, hx1⟩ := open_i64 (hval 1 _ v1 rfl rfl) h1
      obtain ⟨A2, n2, c2, l2, rfl, hnc2, hcm2, hl2, hok2, _⟩ := open_ops (hval 2 _ v2 rfl rfl) h2
      exact bddPlays_walk x0 x1 A2 n2 c2 l2 W hl2 hok2 ⟨hnc2, hcm2⟩)

theorem bddPlays_holds : Rows.BddPlaysSaid :=
  OpenClaim.holds_of_wide 4 Try.f4 rfl rfl rfl rfl rfl rfl rfl ⟨rfl, rfl, rfl, rfl, rfl⟩ rfl rfl rfl rfl rfl (by kernel_rfl) Try.func4 (by kernel_rfl)
    (of_decide_eq_true (by kernel_rfl)) (by unfold Func.isWrapper; first | (rw [if_pos (by decide +kernel)]; kernel_rfl) | (rw [if_neg (by decide +kernel)]; exact ⟨rfl, rfl⟩))
    (fun os started H enc _ => bddPlays_lifted os started H enc)
end Go.Proofs.Ythaiffjalgionaa
