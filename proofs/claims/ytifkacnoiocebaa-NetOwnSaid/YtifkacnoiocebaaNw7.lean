/- A part of the proof: Peer, Ring2, PkChk, Ring4, StepNext, StepDev, StepMem, As, AsRow. -/
import Derived.Test.YtifkacnoiocebaaNw6
import Derived.ChangeKeysEq
import Derived.IntWalk
set_option linter.unusedVariables false
set_option linter.unusedSimpArgs false
set_option maxRecDepth 100000
set_option maxHeartbeats 4000000
namespace Go.Proofs.Ytifkacnoiocebaa
open Go.RowKit
theorem peer_nil (lA dA : Option Addr) (dn dc lc : Nat) (x y : Int) (W : World) :
    Calls Try.prog 42 #[.agg #[.slice dA dn dc, .slice lA 0 lc], .agg #[.int .i64 x, .int .i64 y]] W fun e W' => e = .returned (peerV none) ∧ Below W.heap.size W W' := by
  have HB := hide (fun o0 o1 o2 => show Below W.heap.size W (((W.alloc o0).alloc o1).alloc o2) from (((Below.refl _ _).alloc (Nat.le_refl _) _).alloc (by simp) _).alloc (by simp; omega) _)
  go_enter Try.func42, Try.ntmps42
  go_wp2
  refine wp_loop_rounds 1 ?_
  rw [rounds_succ]
  go_wp2
  refine bodyPost_ret (v := .tuple #[.agg #[.int .i64 0, .int .i64 0], .bool false]) (by simp [results, Try.results42, go_sem]) rfl ⟨rfl, ?_⟩
  first | exact HB.out _ _ _ | exact ((HB.out _ _ _).setCell (le2 _) _).setCell (le2 _) _
theorem peer_any (dA : Option Addr) (dn dc : Nat) (lA : Option Addr) (ln lc : Nat) (ls : List LinkV) (x y : Int) (W : World) (hn : ln ≤ 9223372036854775807) (hl : SlAt LinkV.cells 4 W W.heap.size lA ln ls) :
    Calls Try.prog 42 #[.agg #[.slice dA dn dc, .slice lA ln lc], .agg #[.int .i64 x, .int .i64 y]] W fun e W' => e = .returned (peerV (peerF ls (x, y))) ∧ Below W.heap.size W W' := by
  rcases Nat.eq_zero_or_pos ln with rfl | h0
  · have : ls = [] := List.eq_nil_of_length_eq_zero hl.1
    subst this
    exact peer_nil lA dA dn dc lc x y W
  · obtain ⟨b, o, rfl, _, _⟩ := hl.2 h0
    exact peer_walk ls (.slice dA dn dc) b o ln lc x y W hn hl h0 dA dn dc rfl
def endsOf (ls : List LinkV) : List Pl := ls.flatMap fun l => [l.e1, l.e2]
theorem takenB_false {ends : List Pl} {l : LinkV} (h : takenB ends l = false) : l.e1 ≠ l.e2 ∧ l.e1 ∉ ends ∧ l.e2 ∉ ends := by
  simp only [takenB, Bool.or_eq_false_iff, List.any_eq_false] at h
  refine ⟨fun e => ?_, fun hm => h.1.2 _ hm ((eqP_iff _ _).2 rfl), fun hm => h.2 _ hm ((eqP_iff _ _).2 rfl)⟩
  have := (eqP_iff l.e1 l.e2).2 e
  rw [h.1.1] at this
  cases this
theorem linksE_ok {ds : List Dev} : ∀ (ls : List LinkV) (ends : List Pl), ends.Nodup → (∀ x ∈ ends, placeB ds x = true) → linksE ds ends ls = 0 → (ends ++ endsOf ls).Nodup ∧ ∀ x ∈ ends ++ endsOf ls, placeB ds x = true := by
  intro ls
  induction ls with
  | nil => intro ends hn hp _; exact ⟨by simpa [endsOf] using hn, by simpa [endsOf] using hp⟩
  | cons l ls ih =>
    intro ends hn hp h
    simp only [linksE] at h
    by_cases h1 : placeB ds l.e1 = false
    · rw [if_pos h1] at h; cases h
    rw [if_neg h1] at h
    by_cases h2 : placeB ds l.e2 = false
    · rw [if_pos h2] at h; cases h
    rw [if_neg h2] at h
    cases h3 : takenB ends l
    case true => rw [h3] at h; simp at h
    rw [h3] at h
    obtain ⟨t1, t2, t3⟩ := takenB_false h3
    have h := ih (ends ++ [l.e1, l.e2]) (by
      rw [List.nodup_append]
      refine ⟨hn, by simp [t1], fun a ha b hb => ?_⟩
      simp only [List.mem_cons, List.not_mem_nil, or_false] at hb
      rcases hb with rfl | rfl
      · exact fun e => t2 (e ▸ ha)
      · exact fun e => t3 (e ▸ ha)) (by
      intro x hx
      simp only [List.mem_append, List.mem_cons, List.not_mem_nil, or_false] at hx
      rcases hx with hx | rfl | rfl
      · exact hp x hx
      · simpa using h1
      · simpa using h2) (by simpa using h)
    have e : ends ++ [l.e1, l.e2] ++ endsOf ls = ends ++ endsOf (l :: ls) := by simp [endsOf]
    rw [e] at h
    exact h
structure NetOk (ds : List Dev) (ls : List LinkV) : Prop where
  dl : ds.length ≤ 10
  ll : ls.length ≤ 15
  nd : (endsOf ls).Nodup
  pl : ∀ x ∈ endsOf ls, placeB ds x = true
  de : devsE [] ds = 0
theorem netE_ok {ds : List Dev} {ls : List LinkV} (h : netE ds ls = 0) : NetOk ds ls := by
  unfold netE at h
  by_cases h1 : 10 < ds.length ∨ 15 < ls.length
  · rw [if_pos h1] at h; cases h
  rw [if_neg h1] at h
  by_cases h2 : devsE [] ds = 0
  · rw [if_pos h2] at h
    obtain ⟨a, b⟩ := linksE_ok ls [] (by simp) (by simp) h
    exact ⟨by omega, by omega, by simpa using a, by simpa using b, h2⟩
  · rw [if_neg h2] at h; exact absurd h h2
theorem mem_endsOf {ls : List LinkV} {x : Pl} : x ∈ endsOf ls ↔ ∃ l ∈ ls, x = l.e1 ∨ x = l.e2 := by
  simp [endsOf]
theorem peerF_none {ls : List LinkV} {x : Pl} (h : x ∉ endsOf ls) : peerF ls x = none := by
  induction ls with
  | nil => rfl
  | cons l ls ih =>
    simp only [endsOf, List.flatMap_cons, List.mem_append, List.mem_cons, List.not_mem_nil, or_false, not_or] at h
    have h1 : eqP x l.e1 = false := by cases e : eqP x l.e1; rfl; exact absurd ((eqP_iff _ _).1 e) h.1.1
    have h2 : eqP x l.e2 = false := by cases e : eqP x l.e2; rfl; exact absurd ((eqP_iff _ _).1 e) h.1.2
    simp only [peerF, h1, h2, Bool.false_eq_true, if_false]
    exact ih h.2
theorem eqP_ne {x y : Pl} (h : x ≠ y) : eqP x y = false := by cases e : eqP x y; rfl; exact absurd ((eqP_iff _ _).1 e) h
theorem eqP_self (x : Pl) : eqP x x = true := (eqP_iff x x).2 rfl
theorem peerF_back {ls : List LinkV} (hn : (endsOf ls).Nodup) {x : Pl} (h : x ∈ endsOf ls) : ∃ y, peerF ls x = some y ∧ peerF ls y = some x ∧ y ∈ endsOf ls := by
  induction ls with
  | nil => simp [endsOf] at h
  | cons l ls ih =>
    have e : endsOf (l :: ls) = l.e1 :: l.e2 :: endsOf ls := by simp [endsOf]
    rw [e] at hn h ⊢
    have hn1 := List.nodup_cons.1 hn
    have hn2 := List.nodup_cons.1 hn1.2
    have h12 : l.e1 ≠ l.e2 := fun e => hn1.1 (by rw [e]; simp)
    have h1n : l.e1 ∉ endsOf ls := fun hm => hn1.1 (by simp [hm])
    simp only [List.mem_cons] at h
    rcases h with rfl | rfl | h
    · exact ⟨l.e2, by simp [peerF, eqP_self], by simp [peerF, eqP_self, eqP_ne (Ne.symm h12)], by simp⟩
    · exact ⟨l.e1, by simp [peerF, eqP_self, eqP_ne (Ne.symm h12)], by simp [peerF, eqP_self], by simp⟩
    · obtain ⟨y, h3, h4, h5⟩ := ih hn2.2 h
      have hx1 : x ≠ l.e1 := fun e => h1n (e ▸ h)
      have hx2 : x ≠ l.e2 := fun e => hn2.1 (e ▸ h)
      have hy1 : y ≠ l.e1 := fun e => h1n (e ▸ h5)
      have hy2 : y ≠ l.e2 := fun e => hn2.1 (e ▸ h5)
      exact ⟨y, by simp [peerF, eqP_ne hx1, eqP_ne hx2, h3], by simp [peerF, eqP_ne hy1, eqP_ne hy2, h4], by simp [h5]⟩
theorem peerF_some {ls : List LinkV} (hn : (endsOf ls).Nodup) {x y : Pl} (h : peerF ls x = some y) : x ∈ endsOf ls ∧ y ∈ endsOf ls ∧ peerF ls y = some x := by
  by_cases hx : x ∈ endsOf ls
  · obtain ⟨z, h1, h2, h3⟩ := peerF_back hn hx
    rw [h] at h1
    cases h1
    exact ⟨hx, h3, h2⟩
  · rw [peerF_none hx] at h; cases h
theorem boxesL : ∀ (l : List (Array Value × TypeId)) (W : World) {W' : World}, RowKit.Below (W.heap.size + l.length) (l.foldl (fun w x => w.alloc (.cells x.1 x.2)) W) W' →
    (∀ (i : Nat) c t, l[i]? = some (c, t) → ∀ (o : Nat) (v : Value), c[o]? = some v → W'.cell? ⟨W.heap.size + i, o, none⟩ = some v) ∧ RowKit.Below W.heap.size W W' ∧ W.heap.size + l.length ≤ W'.heap.size := by
  intro l
  induction l with
  | nil =>
    intro W W' hb
    exact ⟨fun i c t h => by simp at h, by simpa using hb, by have := hb.size; simpa using this⟩
  | cons x l ih =>
    intro W W' hb
    have hz : (W.alloc (.cells x.1 x.2)).heap.size = W.heap.size + 1 := by simp
    obtain ⟨h1, h2, h3⟩ := ih (W.alloc (.cells x.1 x.2)) (W' := W') (by
      rw [hz]
      simp only [List.foldl_cons, List.length_cons] at hb
      rw [show W.heap.size + 1 + l.length = W.heap.size + (l.length + 1) by omega]
      exact hb)
    refine ⟨fun i c t hi o v hv => ?_, ((RowKit.Below.refl _ _).alloc (Nat.le_refl _) _).trans (h2.mono (by omega)), by rw [hz] at h3; simp only [List.length_cons]; omega⟩
    cases i with
    | zero =>
      cases hi
      rw [hz] at h2
      exact cell_new W _ _ rfl h2 o v hv
    | succ i =>
      have := h1 i c t (by simpa using hi) o v hv
      rw [hz] at this
      rw [show W.heap.size + (i + 1) = W.heap.size + 1 + i by omega]
      exact this
open Go.Maps
theorem wi16 (a : Int) : inR a 0 15 = (decide (0 ≤ a) && decide (a < 16)) := by
  unfold inR
  rw [Bool.eq_iff_iff]; simp; omega
theorem wi8 (a : Int) : inR a 0 7 = (decide (0 ≤ a) && decide (a < 8)) := by
  unfold inR
  rw [Bool.eq_iff_iff]; simp; omega
theorem packetCheck_walk (p : P4) (W : World) : Calls Try.prog 41 #[.agg #[.int .i64 p.src, .int .i64 p.dst, .int .i64 p.sport, .int .i64 p.dport]] W fun e W' => e = .returned (.int .i64 (if rightB p then 0 else 1)) ∧ RowKit.Below W.heap.size W W' := by
  obtain ⟨a, b, c, d⟩ := p
  have HB := hide (fun o => show RowKit.Below W.heap.size W (W.alloc o) from (RowKit.Below.refl _ _).alloc (Nat.le_refl _) o)
  have HR := hide (show rightB ⟨a, b, c, d⟩ = (inR a 0 15 && inR b 0 15 && inR c 0 7 && inR d 0 7) from rfl)
  generalize rightB _ = R at *
  cases e1 : inR a 0 15
  · have f1 := hide ((wi16 a).symm.trans e1)
    have HF := hide (show R = false from by rw [HR.out, e1]; rfl)
    rw [HF.out]
    go_enter Try.func41, Try.ntmps41
    go_wp2_with (first | (go_at_call_of 56 (Value.int .i64 a); refine (within_walk _ _ _ _ f1.out).mono ?_; rintro e w1 ⟨rfl, rfl⟩))
    go_ret
    exact ⟨rfl, HB.out _⟩
  have f1 := hide ((wi16 a).symm.trans e1)
  cases e2 : inR b 0 15
  · have f2 := hide ((wi16 b).symm.trans e2)
    have HF := hide (show R = false from by rw [HR.out, e1, e2]; rfl)
    rw [HF.out]
    go_enter Try.func41, Try.ntmps41
    go_wp2_with (first | (go_at_call_of 56 (Value.int .i64 a); refine (within_walk _ _ _ _ f1.out).mono ?_; rintro e w1 ⟨rfl, rfl⟩) | (go_at_call_of 56 (Value.int .i64 b); refine (within_walk _ _ _ _ f2.out).mono ?_; rintro e w1 ⟨rfl, rfl⟩))
    go_ret
    exact ⟨rfl, HB.out _⟩
  have f2 := hide ((wi16 b).symm.trans e2)
  cases e3 : inR c 0 7
  · have f3 := hide ((wi8 c).symm.trans e3)
    have HF := hide (show R = false from by rw [HR.out, e1, e2, e3]; rfl)
    rw [HF.out]
    go_enter Try.func41, Try.ntmps41
    go_wp2_with (first | (go_at_call_of 56 (Value.int .i64 a); refine (within_walk _ _ _ _ f1.out).mono ?_; rintro e w1 ⟨rfl, rfl⟩) | (go_at_call_of 56 (Value.int .i64 b); refine (within_walk _ _ _ _ f2.out).mono ?_; rintro e w1 ⟨rfl, rfl⟩) | (go_at_call_of 56 (Value.int .i64 c); refine (within_walk _ _ _ _ f3.out).mono ?_; rintro e w1 ⟨rfl, rfl⟩))
    go_ret
    exact ⟨rfl, HB.out _⟩
  have f3 := hide ((wi8 c).symm.trans e3)
  cases e4 : inR d 0 7
  · have f4 := hide ((wi8 d).symm.trans e4)
    have HF := hide (show R = false from by rw [HR.out, e1, e2, e3, e4]; rfl)
    rw [HF.out]
    go_enter Try.func41, Try.ntmps41
    go_wp2_with (first | (go_at_call_of 56 (Value.int .i64 a); refine (within_walk _ _ _ _ f1.out).mono ?_; rintro e w1 ⟨rfl, rfl⟩) | (go_at_call_of 56 (Value.int .i64 b); refine (within_walk _ _ _ _ f2.out).mono ?_; rintro e w1 ⟨rfl, rfl⟩) | (go_at_call_of 56 (Value.int .i64 c); refine (within_walk _ _ _ _ f3.out).mono ?_; rintro e w1 ⟨rfl, rfl⟩) | (go_at_call_of 56 (Value.int .i64 d); refine (within_walk _ _ _ _ f4.out).mono ?_; rintro e w1 ⟨rfl, rfl⟩))
    go_ret
    exact ⟨rfl, HB.out _⟩
  · have f4 := hide ((wi8 d).symm.trans e4)
    have HF := hide (show R = true from by rw [HR.out, e1, e2, e3, e4]; rfl)
    rw [HF.out]
    go_enter Try.func41, Try.ntmps41
    go_wp2_with (first | (go_at_call_of 56 (Value.int .i64 a); refine (within_walk _ _ _ _ f1.out).mono ?_; rintro e w1 ⟨rfl, rfl⟩) | (go_at_call_of 56 (Value.int .i64 b); refine (within_walk _ _ _ _ f2.out).mono ?_; rintro e w1 ⟨rfl, rfl⟩) | (go_at_call_of 56 (Value.int .i64 c); refine (within_walk _ _ _ _ f3.out).mono ?_; rintro e w1 ⟨rfl, rfl⟩) | (go_at_call_of 56 (Value.int .i64 d); refine (within_walk _ _ _ _ f4.out).mono ?_; rintro e w1 ⟨rfl, rfl⟩))
    go_ret
    exact ⟨rfl, HB.out _⟩
end Go.Proofs.Ytifkacnoiocebaa
namespace Go.Proofs.Ytifkacnoiocebaa
open Go.RowKit
section
variable {W w w' : World} {n : NetV} {p : P4} {a b : Int}
theorem own_set {base e s m : Nat} {v : Value} {xs : List Value} (h : w.ownsRow base e s v m xs) {q : Addr} (hq : q.block < base) (u : Value) : (w.setCell q u).ownsRow base e s v m xs :=
  own_same h (fun k hk => Below.heap_setCell w q u k (by have := (h.lt k hk).1; omega))
end
open Go.ChangeAt Go.ChangeShapes Go.WideShapes
theorem own_cap {w : World} {base e s m n c : Nat} {A : Option Addr} {xs : List Value} (h : w.ownsRow base e s (.slice A n c) m xs) : c ≤ maxLen := by
  rcases h.2 with ⟨e, _⟩ | ⟨q, cap, cur, e, r⟩
  · simp only [Value.slice.injEq] at e; rw [e.2.2]; exact Nat.zero_le _
  · simp only [Value.slice.injEq] at e; rw [e.2.2]; exact r.2.2.2.1
theorem ints_sl {w : World} {B n : Nat} {A : Option Addr} {l : List Int} (h : IntsAt w B A n l) : SlAt i64Cells 1 w B A n l :=
  ⟨h.1, fun h0 => by
    obtain ⟨b, o, e, hb, hg⟩ := h.2.2 h0
    refine ⟨b, o, e, hb, fun k r hr j v hv => ?_⟩
    match j, hv with
    | 0, hv => cases hv; rw [Nat.mul_one]; exact hg k r hr⟩
def DBoxF (w : World) (N : Nat) (d : DevV) : Prop := DBox w N d ∧ ∀ o, w.frozen? ⟨N, o, none⟩ = false
theorem DBoxF.below {w w' : World} {B N : Nat} {d : DevV} (h : DBoxF w N d) (hB : Below B w w') (hN : N < B) : DBoxF w' N d :=
  ⟨h.1.below hB hN, fun o => (hB.frozen (p := ⟨N, o, none⟩) hN).trans (h.2 o)⟩
theorem DBoxF.new (w : World) (d : DevV) (t : TypeId) : DBoxF (w.alloc (.cells #[.string d.name, .int .i64 d.kind, .int .i64 d.addr, .int .u8 d.pool, .slice d.bA d.bn d.bc, .slice d.rA d.rn d.rc, .slice d.tA d.tn d.tc] t)) w.heap.size d :=
  ⟨DBox.new w d t, fun o => by unfold World.frozen?; rw [heap_alloc_new w _]; simp⟩
def BoxS (w : World) (N : Nat) (u v : Value) : Prop := w.cell? ⟨N, 0, none⟩ = some u ∧ w.cell? ⟨N, 1, none⟩ = some v ∧ w.frozen? ⟨N, 0, none⟩ = false ∧ w.frozen? ⟨N, 1, none⟩ = false
theorem BoxS.below {w w' : World} {B N : Nat} {u v : Value} (h : BoxS w N u v) (hB : Below B w w') (hN : N < B) : BoxS w' N u v :=
  ⟨(hB.cell (p := ⟨N, 0, none⟩) hN).trans h.1, (hB.cell (p := ⟨N, 1, none⟩) hN).trans h.2.1, (hB.frozen (p := ⟨N, 0, none⟩) hN).trans h.2.2.1, (hB.frozen (p := ⟨N, 1, none⟩) hN).trans h.2.2.2⟩
theorem BoxS.new (w : World) (u v : Value) (t : TypeId) : BoxS (w.alloc (.cells #[u, v] t)) w.heap.size u v := by
  have hbx := heap_alloc_new w (.cells #[u, v] t)
  refine ⟨by rw [cell_of_row _ _ _ _ _ _ hbx]; rfl, by rw [cell_of_row _ _ _ _ _ _ hbx]; rfl, ?_, ?_⟩ <;> (unfold World.frozen?; rw [hbx]; simp)
structure CP (W : World) (n : NetV) (wr : World) (g : Nat) (V : Value) (A2 : Option Addr) (c2 : Nat) (ds' : List DevV) : Prop where
  bl : Below W.heap.size W wr
  hg : W.heap.size + 1 < g
  sz : g + 1 ≤ wr.heap.size
  rx : BoxS wr (W.heap.size + 1) (.slice none 0 0) (.slice none 0 0)
  gx : BoxS wr g V (.slice A2 n.ln c2)
  own : wr.ownsRow (g + 1) 61 7 V ds'.length (ds'.flatMap DevV.cells)
  lsl : SlAt LinkV.cells 4 wr g A2 n.ln n.ls
  lcap : n.ln ≤ c2 ∧ c2 ≤ maxLen
  dev : ∀ d ∈ ds', DevAt wr wr.heap.size d
  don : ∀ d ∈ ds', DevOn (fun q => g + 1 ≤ q ∧ q < wr.heap.size ∧ V.ownBlock ≠ some q) d
  same : ds'.map DevV.dev = (n.ds.take ds'.length).map DevV.dev
theorem CP.below {W : World} {n : NetV} {wr w' : World} {g : Nat} {V : Value} {A2 : Option Addr} {c2 : Nat} {ds' : List DevV} (h : CP W n wr g V A2 c2 ds') (hb : Below wr.heap.size wr w') : CP W n w' g V A2 c2 ds' := by
  have hs := h.sz
  have hs2 := hb.size
  have hg := h.hg
  have hw := h.bl.size
  exact ⟨h.bl.trans (hb.mono hw), hg, by omega, h.rx.below hb (by omega), h.gx.below hb (by omega), own_below h.own hb, h.lsl.below (hb.mono (by omega)) (Nat.le_refl _), h.lcap,
    fun d hd => (h.dev d hd).below hb hs2, fun d hd => (h.don d hd).weak (fun q hq => ⟨hq.1, by have := hq.2.1; omega, hq.2.2⟩), h.same⟩
theorem CP.next {W : World} {n : NetV} {w8 w9 : World} {g : Nat} {V V' : Value} {A2 : Option Addr} {c2 : Nat} {ds' : List DevV} (h : CP W n w8 g V A2 c2 ds') (d r : DevV) (hd : DevAt w8 w8.heap.size d)
    (hon : DevOn (fun q => g + 1 ≤ q ∧ q < w8.heap.size ∧ V.ownBlock ≠ some q) d) (hr : n.ds[ds'.length]? = some r) (hrd : r.dev = d.dev)
    (hown : w9.ownsRow (g + 1) 61 7 V' (ds'.length + 1) (ds'.flatMap DevV.cells ++ d.cells)) (hg : w8.grownBy w9 V.ownBlock) (hat : V'.ownBlock = V.ownBlock ∨ V'.ownBlock = some w8.heap.size) :
    CP W n (w9.setCell ⟨g, 0, none⟩ V') g V' A2 c2 (ds' ++ [d]) := by
  have hs := h.sz
  have hs2 := hg.size
  have hgg := h.hg
  have hlt := h.own.lt
  have hbB : Below (g + 1) w8 w9 := (Below.refl _ _).grown hg (by omega) (fun q hq => (hlt q hq).1)
  have hbg : Below g w8 (w9.setCell ⟨g, 0, none⟩ V') := (hbB.mono (Nat.le_succ g)).setCell (Nat.le_refl g) _
  have hsz : (w9.setCell ⟨g, 0, none⟩ V').heap.size = w9.heap.size := by simp [World.setCell]
  have hgx := h.gx.below hbB (Nat.lt_succ_self _)
  have hst : StayOn (fun k => some k ≠ V.ownBlock ∧ k ≠ g) w8 (w9.setCell ⟨g, 0, none⟩ V') :=
    ((StayOn.of_grown hg).weak (fun k hk => hk.1)).trans ((StayOn.of_set ⟨g, 0, none⟩ V').weak (fun k hk => hk.2))
  have hon' : ∀ x ∈ ds' ++ [d], DevOn (fun q => g + 1 ≤ q ∧ q < w8.heap.size ∧ V.ownBlock ≠ some q) x := fun x hx => by
    rcases List.mem_append.1 hx with hx | hx
    · exact h.don x hx
    · simp at hx; subst hx; exact hon
  refine ⟨h.bl.trans (hbg.mono (by omega)), hgg, by omega, h.rx.below hbg (by omega), ⟨?_, ?_, ?_, ?_⟩, ?_, h.lsl.below hbg (Nat.le_refl _), h.lcap, fun x hx => ?_, fun x hx => ?_, ?_⟩
  · exact World.cell?_setCell_same _ _ _ hgx.1
  · rw [World.cell?_setCell_other _ _ _ _ (by simp)]; exact hgx.2.1
  · rw [World.frozen?_setCell]; exact hgx.2.2.1
  · rw [World.frozen?_setCell]; exact hgx.2.2.2
  · have : w9.ownsRow (g + 1) 61 7 V' (ds' ++ [d]).length ((ds' ++ [d]).flatMap DevV.cells) := by simpa using hown
    exact own_set (q := ⟨g, 0, none⟩) this (Nat.lt_succ_self g) _
  · rw [hsz]
    refine DevAt.stay ?_ hst ((hon' x hx).weak (fun q hq => ⟨fun e => hq.2.2 e.symm, by have := hq.1; omega⟩)) hs2
    rcases List.mem_append.1 hx with hx | hx
    · exact h.dev x hx
    · simp at hx; subst hx; exact hd
  · rw [hsz]
    refine (hon' x hx).weak (fun q hq => ⟨hq.1, by have := hq.2.1; omega, fun e => ?_⟩)
    rcases hat with e1 | e1
    · rw [e1] at e; exact hq.2.2 e
    · rw [e1] at e; have := hq.2.1; simp only [Option.some.injEq] at e; omega
  · rw [List.map_append, h.same, List.length_append, List.length_singleton, List.take_add_one, hr]
    simp [hrd]
theorem sl_ints {w : World} {B n : Nat} {A : Option Addr} {l : List Int} (h : SlAt i64Cells 1 w B A n l) (ho : ∀ x ∈ l, i64ok x) : IntsAt w B A n l :=
  ⟨h.1, ho, fun h0 => by
    obtain ⟨b, o, e, hb, hg⟩ := h.2 h0
    refine ⟨b, o, e, hb, fun k x hx => ?_⟩
    have := hg k x hx 0 _ rfl
    rwa [Nat.mul_one] at this⟩
def set3 (w : World) (N : Nat) (u v t : Value) : World := ((w.setCell ⟨N, 4, none⟩ u).setCell ⟨N, 5, none⟩ v).setCell ⟨N, 6, none⟩ t
theorem set3_size (w : World) (N : Nat) (u v t : Value) : (set3 w N u v t).heap.size = w.heap.size := by simp [set3, World.setCell]
theorem DBoxF.set3 {w : World} {N : Nat} {d : DevV} (h : DBoxF w N d) (B1 B2 B3 : Option Addr) (n1 n2 n3 e1 e2 e3 : Nat) (b : List Int) (r : List RuleV) (t : List RouteV) :
    DBoxF (set3 w N (.slice B1 n1 e1) (.slice B2 n2 e2) (.slice B3 n3 e3)) N ⟨d.name, d.kind, d.addr, d.pool, B1, n1, e1, b, B2, n2, e2, r, B3, n3, e3, t⟩ := by
  obtain ⟨⟨x0, x1, x2, x3, x4, x5, x6⟩, xf⟩ := h
  have o : ∀ (w : World) (a b : Nat) (u v : Value), b ≠ a → w.cell? ⟨N, b, none⟩ = some u → (w.setCell ⟨N, a, none⟩ v).cell? ⟨N, b, none⟩ = some u := fun w a b u v hne hu => by
    rw [World.cell?_setCell_other _ _ _ _ (by simp [hne])]; exact hu
  have s : ∀ (w : World) (a : Nat) (u v : Value), w.cell? ⟨N, a, none⟩ = some u → (w.setCell ⟨N, a, none⟩ v).cell? ⟨N, a, none⟩ = some v := fun w a u v hu => World.cell?_setCell_same _ _ _ hu
  unfold Go.Proofs.Ytifkacnoiocebaa.set3
  refine ⟨⟨?_, ?_, ?_, ?_, ?_, ?_, ?_⟩, fun q => by rw [World.frozen?_setCell, World.frozen?_setCell, World.frozen?_setCell]; exact xf q⟩
  · exact o _ _ _ _ _ (by omega) (o _ _ _ _ _ (by omega) (o _ _ _ _ _ (by omega) x0))
  · exact o _ _ _ _ _ (by omega) (o _ _ _ _ _ (by omega) (o _ _ _ _ _ (by omega) x1))
  · exact o _ _ _ _ _ (by omega) (o _ _ _ _ _ (by omega) (o _ _ _ _ _ (by omega) x2))
  · exact o _ _ _ _ _ (by omega) (o _ _ _ _ _ (by omega) (o _ _ _ _ _ (by omega) x3))
  · exact o _ _ _ _ _ (by omega) (o _ _ _ _ _ (by omega) (s _ _ _ _ x4))
  · exact o _ _ _ _ _ (by omega) (s _ _ _ _ (o _ _ _ _ _ (by omega) x5))
  · exact s _ _ _ _ (o _ _ _ _ _ (by omega) (o _ _ _ _ _ (by omega) x6))
theorem set3_stay (w : World) (N : Nat) (u v t : Value) : StayOn (fun q => q ≠ N) w (set3 w N u v t) :=
  ((StayOn.of_set ⟨N, 4, none⟩ u).trans (StayOn.of_set ⟨N, 5, none⟩ v)).trans (StayOn.of_set ⟨N, 6, none⟩ t)
theorem set3_below {w w' : World} {B N : Nat} (h : Below B w w') (hN : B ≤ N) (u v t : Value) : Below B w (set3 w' N u v t) :=
  ((h.setCell (by exact hN) _).setCell (by exact hN) _).setCell (by exact hN) _
theorem dev_copied {w4 w5 w6 w7 : World} {N B : Nat} {r : DevV} {B1 B2 B3 : Option Addr} {e1 e2 e3 : Nat} (hz : w4.heap.size = N + 1) (h5 : Below w4.heap.size w4 w5) (h6 : Below w5.heap.size w5 w6) (h7 : Below w6.heap.size w6 w7) (hr : DevAt w4 B r)
    (o1 : w5.ownsRow w4.heap.size 3 1 (.slice B1 r.bn e1) r.bn (r.bs.flatMap i64Cells)) (o2 : w6.ownsRow w5.heap.size 55 5 (.slice B2 r.rn e2) r.rn (r.rs.flatMap RuleV.cells)) (o3 : w7.ownsRow w6.heap.size 71 3 (.slice B3 r.tn e3) r.tn (r.ts.flatMap RouteV.cells))
    (u v t : Value) :
    DevAt (set3 w7 N u v t) w7.heap.size ⟨r.name, r.kind, r.addr, r.pool, B1, r.bn, e1, r.bs, B2, r.rn, e2, r.rs, B3, r.tn, e3, r.ts⟩ ∧
    DevOn (fun q => N < q ∧ q < w7.heap.size) ⟨r.name, r.kind, r.addr, r.pool, B1, r.bn, e1, r.bs, B2, r.rn, e2, r.rs, B3, r.tn, e3, r.ts⟩ := by
  have s5 := h5.size
  have s6 := h6.size
  have s7 := h7.size
  obtain ⟨A1, k1, f1, c1, sl1, g1⟩ := SlAt.of_own i64Cells_len o1 hr.bs.1
  obtain ⟨A2, k2, f2, c2, sl2, g2⟩ := SlAt.of_own RuleV.len o2 hr.rs.1
  obtain ⟨A3, k3, f3, c3, sl3, g3⟩ := SlAt.of_own RouteV.len o3 hr.ts.1
  cases f1
  cases f2
  cases f3
  have l1 : ∀ a, B1 = some a → w4.heap.size ≤ a.block ∧ a.block < w5.heap.size := fun a ha => o1.lt a.block (by rw [ha]; rfl)
  have l2 : ∀ a, B2 = some a → w5.heap.size ≤ a.block ∧ a.block < w6.heap.size := fun a ha => o2.lt a.block (by rw [ha]; rfl)
  have l3 : ∀ a, B3 = some a → w6.heap.size ≤ a.block ∧ a.block < w7.heap.size := fun a ha => o3.lt a.block (by rw [ha]; rfl)
  have st7 : StayOn (fun q => q ≠ N) w7 (set3 w7 N u v t) := set3_stay w7 N u v t
  have st6 : StayOn (fun q => q ≠ N ∧ q < w6.heap.size) w6 (set3 w7 N u v t) := ((StayOn.of_below h7).weak (fun q hq => hq.2)).trans (st7.weak (fun q hq => hq.1))
  have st5 : StayOn (fun q => q ≠ N ∧ q < w5.heap.size) w5 (set3 w7 N u v t) := ((StayOn.of_below h6).weak (fun q hq => hq.2)).trans (st6.weak (fun q hq => ⟨hq.1, by omega⟩))
  refine ⟨⟨hr.nm, hr.kd, hr.ad, hr.pl, ?_, ?_, ?_, hr.tok, ⟨c1, own_cap o1⟩, ⟨c2, own_cap o2⟩, ⟨c3, own_cap o3⟩⟩, ⟨fun a ha => ?_, fun a ha => ?_, fun a ha => ?_⟩⟩
  · exact sl_ints (sl1.stay st5 (fun a ha => by have := l1 a ha; omega) (by omega)) hr.bs.2.1
  · exact (sl2.stay st6 (fun a ha => by have := l2 a ha; omega) (by omega)).rules hr.rs.2.1
  · exact sl3.stay st7 (fun a ha => by have := l3 a ha; omega) (by omega)
  · have := l1 a ha; omega
  · have := l2 a ha; omega
  · have := l3 a ha; omega
end Go.Proofs.Ytifkacnoiocebaa
namespace Go.Proofs.Ytifkacnoiocebaa
open Go.Maps Go.RowKit
instance P4.decEq : DecidableEq P4 := fun a b =>
  if h : a.src = b.src ∧ a.dst = b.dst ∧ a.sport = b.sport ∧ a.dport = b.dport then isTrue (by
    obtain ⟨a0, a1, a2, a3⟩ := a
    obtain ⟨b0, b1, b2, b3⟩ := b
    obtain ⟨h1, h2, h3, h4⟩ := h
    simp only at h1 h2 h3 h4
    subst h1 h2 h3 h4
    rfl) else isFalse (fun e => h (by subst e; exact ⟨rfl, rfl, rfl, rfl⟩))
structure MemS where
  F : OfK → Bool
  O : PoK → Option (Int × Int)
  B : OfK → Option Int
def MemS.empty : MemS := ⟨fun _ => false, fun _ => none, fun _ => none⟩
inductive Know where
  | nothing
  | flow (k : OfK)
  | owner (k : PoK) (o : Int × Int)
  | back (k : OfK) (b : Int)
def MemS.learn (M : MemS) : Know → MemS
  | .nothing => M
  | .flow k => { M with F := fun x => if x = k then true else M.F x }
  | .owner k o => { M with O := fun x => if x = k then some o else M.O x }
  | .back k b => { M with B := fun x => if x = k then some b else M.B x }
inductive Gone where
  | flow (k : OfK)
  | owner (k : PoK)
  | back (k : OfK)
def MemS.drop (M : MemS) : Gone → MemS
  | .flow k => { M with F := fun x => if x = k then false else M.F x }
  | .owner k => { M with O := fun x => if x = k then none else M.O x }
  | .back k => { M with B := fun x => if x = k then none else M.B x }
def ownV (o : Int × Int) : Value := .agg #[.int .i64 o.1, .int .i64 o.2]
def flowsV (M : MemS) : OfK → Option Value := fun k => if M.F k then some (.bool true) else none
def ownersV (M : MemS) : PoK → Option Value := fun k => (M.O k).map ownV
def backsV (M : MemS) : OfK → Option Value := fun k => (M.B k).map fun b => .int .i64 b
theorem flowsV_learn (M : MemS) (k : OfK) : putM (flowsV M) k (.bool true) = flowsV (M.learn (.flow k)) := by
  funext x
  simp only [putM, flowsV, MemS.learn]
  by_cases h : x = k <;> simp [h]
theorem ownersV_learn (M : MemS) (k : PoK) (o : Int × Int) : putM (ownersV M) k (ownV o) = ownersV (M.learn (.owner k o)) := by
  funext x
  simp only [putM, ownersV, MemS.learn]
  by_cases h : x = k <;> simp [h]
theorem backsV_learn (M : MemS) (k : OfK) (b : Int) : putM (backsV M) k (.int .i64 b) = backsV (M.learn (.back k b)) := by
  funext x
  simp only [putM, backsV, MemS.learn]
  by_cases h : x = k <;> simp [h]
theorem flowsV_drop (M : MemS) (k : OfK) : cutM (flowsV M) k = flowsV (M.drop (.flow k)) := by
  funext x
  simp only [cutM, flowsV, MemS.drop]
  by_cases h : x = k <;> simp [h]
theorem ownersV_drop (M : MemS) (k : PoK) : cutM (ownersV M) k = ownersV (M.drop (.owner k)) := by
  funext x
  simp only [cutM, ownersV, MemS.drop]
  by_cases h : x = k <;> simp [h]
theorem backsV_drop (M : MemS) (k : OfK) : cutM (backsV M) k = backsV (M.drop (.back k)) := by
  funext x
  simp only [cutM, backsV, MemS.drop]
  by_cases h : x = k <;> simp [h]
structure Near (p : Nat → Prop) (B : Nat) (w w' : World) : Prop where
  os : w'.os = w.os
  tape : w'.tape = w.tape
  output : w'.output = w.output
  size : w.heap.size ≤ w'.heap.size
  block : ∀ k, k < B → ¬ p k → w'.heap[k]? = w.heap[k]?
section
variable {p q : Nat → Prop} {B B' : Nat} {w w' w'' : World}
theorem Near.refl (p : Nat → Prop) (B : Nat) (w : World) : Near p B w w := ⟨rfl, rfl, rfl, Nat.le_refl _, fun _ _ _ => rfl⟩
theorem Near.trans (h : Near p B w w') (k : Near p B w' w'') : Near p B w w'' :=
  ⟨k.os.trans h.os, k.tape.trans h.tape, k.output.trans h.output, Nat.le_trans h.size k.size, fun i hi hp => (k.block i hi hp).trans (h.block i hi hp)⟩
theorem Near.mono (h : Near p B w w') (hB : B' ≤ B) : Near p B' w w' := ⟨h.os, h.tape, h.output, h.size, fun k hk hp => h.block k (by omega) hp⟩
theorem Near.weak (h : Near p B w w') (hq : ∀ k, p k → q k) : Near q B w w' := ⟨h.os, h.tape, h.output, h.size, fun k hk hp => h.block k hk (fun e => hp (hq k e))⟩
theorem Near.of_below (h : Below B w w') : Near p B w w' := ⟨h.os, h.tape, h.output, h.size, fun k hk _ => h.block k hk⟩
theorem Near.below (h : Near p B w w') (hB : B' ≤ B) (hp : ∀ k, p k → B' ≤ k) : Below B' w w' :=
  ⟨h.os, h.tape, h.output, h.size, fun k hk => h.block k (by omega) (fun e => by have := hp k e; omega)⟩
theorem Near.of_turned {b : Nat} (h : w.mapTurned w' b) (hb : p b) : Near p w.heap.size w w' :=
  ⟨h.grown.os, h.grown.tape, h.grown.output, h.grown.size, fun k hk hp => h.grown.block k hk (fun e => hp (by cases e; exact hb))⟩
theorem Near.cell (h : Near p B w w') {a : Addr} (ha : a.block < B) (hp : ¬ p a.block) : w'.cell? a = w.cell? a := World.cell?_of_block (w := w) (h.block a.block ha hp)
theorem Near.frozen (h : Near p B w w') {a : Addr} (ha : a.block < B) (hp : ¬ p a.block) : w'.frozen? a = w.frozen? a := World.frozen?_of_block (w := w) (h.block a.block ha hp)
end
def Is3 (f o b : Nat) (k : Nat) : Prop := k = f ∨ k = o ∨ k = b
structure MemAt (w : World) (g : Nat) (n : NetV) (f o b : Nat) (M : MemS) (k : Nat) : Prop where
  c0 : w.cell? ⟨g, 0, none⟩ = some (.slice n.dA n.dn n.dc)
  c1 : w.cell? ⟨g, 1, none⟩ = some (.slice n.lA n.ln n.lc)
  c2 : w.cell? ⟨g, 2, none⟩ = some (.map (some f))
  c3 : w.cell? ⟨g, 3, none⟩ = some (.map (some o))
  c4 : w.cell? ⟨g, 4, none⟩ = some (.map (some b))
  net : NetAt w w.heap.size n
  mf : MapIs Try.prog 115 ofVal ofDom w f (flowsV M)
  mo : MapIs Try.prog 118 poVal poDom w o (ownersV M)
  mb : MapIs Try.prog 115 ofVal ofDom w b (backsV M)
  nfo : f ≠ o
  nfb : f ≠ b
  nob : o ≠ b
  lf : ∃ L : List OfK, L.length ≤ k ∧ ∀ a, M.F a = true → a ∈ L
  lo : ∃ L : List PoK, L.length ≤ k ∧ ∀ a, (M.O a).isSome = true → a ∈ L
  lb : ∃ L : List OfK, L.length ≤ k ∧ ∀ a, (M.B a).isSome = true → a ∈ L
  oo : ∀ a v, M.O a = some v → i64ok v.1 ∧ i64ok v.2
  ob : ∀ a v, M.B a = some v → i64ok v
section
variable {w w' : World} {g : Nat} {n : NetV} {f o b : Nat} {M : MemS} {k : Nat}
theorem MemAt.glt (h : MemAt w g n f o b M k) : g < w.heap.size := cell_lt h.c0
theorem MemAt.flt (h : MemAt w g n f o b M k) : f < w.heap.size := h.mf.lt
theorem MemAt.olt (h : MemAt w g n f o b M k) : o < w.heap.size := h.mo.lt
theorem MemAt.blt (h : MemAt w g n f o b M k) : b < w.heap.size := h.mb.lt
theorem MemAt.below (h : MemAt w g n f o b M k) (hb : Below w.heap.size w w') : MemAt w' g n f o b M k := by
  have e : ∀ j, w'.cell? ⟨g, j, none⟩ = w.cell? ⟨g, j, none⟩ := fun j => hb.cell (p := ⟨g, j, none⟩) h.glt
  exact ⟨(e _).trans h.c0, (e _).trans h.c1, (e _).trans h.c2, (e _).trans h.c3, (e _).trans h.c4, h.net.below hb hb.size, h.mf.below hb h.flt, h.mo.below hb h.olt, h.mb.below hb h.blt,
    h.nfo, h.nfb, h.nob, h.lf, h.lo, h.lb, h.oo, h.ob⟩
theorem MemAt.more (h : MemAt w g n f o b M k) {k' : Nat} (hk : k ≤ k') : MemAt w g n f o b M k' :=
  ⟨h.c0, h.c1, h.c2, h.c3, h.c4, h.net, h.mf, h.mo, h.mb, h.nfo, h.nfb, h.nob, h.lf.imp fun _ x => ⟨by have := x.1; omega, x.2⟩, h.lo.imp fun _ x => ⟨by have := x.1; omega, x.2⟩, h.lb.imp fun _ x => ⟨by have := x.1; omega, x.2⟩, h.oo, h.ob⟩
theorem map_no_cell {α : Type} {P : Program} {kt : TypeId} {key : α → Value} {dom : α → Prop} {w : World} {b : Nat} {M : α → Option Value} (h : MapIs P kt key dom w b M) {a : Addr} {v : Value} (hc : w.cell? a = some v) : a.block ≠ b := fun e => by
  obtain ⟨es, c, hb⟩ := h.block
  subst e
  simp [World.cell?, hb] at hc
theorem MemAt.not3 (h : MemAt w g n f o b M k) {a : Addr} {v : Value} (hc : w.cell? a = some v) : ¬ Is3 f o b a.block := fun e => by
  rcases e with e | e | e
  · exact map_no_cell h.mf hc e
  · exact map_no_cell h.mo hc e
  · exact map_no_cell h.mb hc e
theorem MemAt.cell (h : MemAt w g n f o b M k) {B : Nat} (hn : Near (Is3 f o b) B w w') {a : Addr} {v : Value} (hc : w.cell? a = some v) (ha : a.block < B) : w'.cell? a = some v := (hn.cell ha (h.not3 hc)).trans hc
theorem MemAt.flow (h : MemAt w g n f o b M k) (hk : k < 1000000) (a : OfK) (ha : ofDom a) : ∃ w', (Instr.mapUpdate 97 (.map (some f)) (ofVal a) (.bool true)).run Try.prog w = .ok () w' ∧ MemAt w' g n f o b (M.learn (.flow a)) (k + 1) ∧ Near (Is3 f o b) w.heap.size w w' := by
  obtain ⟨L, hL, hall⟩ := h.lf
  obtain ⟨w', hrun, r1, r2⟩ := h.mf.storeA ofKeys L (by unfold maxLen; omega) (fun x _ hx => hall x (by simp only [flowsV] at hx; split at hx <;> simp_all)) Try.underlying97 ha (.bool true)
  rw [flowsV_learn] at r1
  have st := StayOn.of_turned r2
  refine ⟨w', hrun, ⟨st _ _ trivial h.c0, st _ _ trivial h.c1, st _ _ trivial h.c2, st _ _ trivial h.c3, st _ _ trivial h.c4, ?_, r1, h.mo.turned r2 h.nfo.symm, h.mb.turned r2 h.nfb.symm, h.nfo, h.nfb, h.nob, ⟨a :: L, by simp; omega, fun x hx => ?_⟩, h.lo.imp fun _ x => ⟨by have := x.1; omega, x.2⟩, h.lb.imp fun _ x => ⟨by have := x.1; omega, x.2⟩, h.oo, h.ob⟩, Near.of_turned r2 (.inl rfl)⟩
  · exact h.net.stay st (fun _ _ => trivial) (fun _ _ => trivial) (fun _ _ => ⟨fun _ _ => trivial, fun _ _ => trivial, fun _ _ => trivial⟩) r2.grown.size
  · simp only [MemS.learn] at hx
    by_cases e : x = a
    · simp [e]
    · rw [if_neg e] at hx; exact List.mem_cons_of_mem _ (hall x hx)
theorem MemAt.owner (h : MemAt w g n f o b M k) (hk : k < 1000000) (a : PoK) (ha : poDom a) (u : Int × Int) (hu : i64ok u.1 ∧ i64ok u.2) : ∃ w', (Instr.mapUpdate 98 (.map (some o)) (poVal a) (ownV u)).run Try.prog w = .ok () w' ∧ MemAt w' g n f o b (M.learn (.owner a u)) (k + 1) ∧ Near (Is3 f o b) w.heap.size w w' := by
  obtain ⟨L, hL, hall⟩ := h.lo
  obtain ⟨w', hrun, r1, r2⟩ := h.mo.storeA poKeys L (by unfold maxLen; omega) (fun x _ hx => hall x (by simpa [ownersV] using hx)) Try.underlying98 ha (ownV u)
  rw [ownersV_learn] at r1
  have st := StayOn.of_turned r2
  refine ⟨w', hrun, ⟨st _ _ trivial h.c0, st _ _ trivial h.c1, st _ _ trivial h.c2, st _ _ trivial h.c3, st _ _ trivial h.c4, ?_, h.mf.turned r2 h.nfo, r1, h.mb.turned r2 h.nob.symm, h.nfo, h.nfb, h.nob, h.lf.imp fun _ x => ⟨by have := x.1; omega, x.2⟩, ⟨a :: L, by simp; omega, fun x hx => ?_⟩, h.lb.imp fun _ x => ⟨by have := x.1; omega, x.2⟩, fun x v hx => ?_, h.ob⟩, Near.of_turned r2 (.inr (.inl rfl))⟩
  · exact h.net.stay st (fun _ _ => trivial) (fun _ _ => trivial) (fun _ _ => ⟨fun _ _ => trivial, fun _ _ => trivial, fun _ _ => trivial⟩) r2.grown.size
  · simp only [MemS.learn] at hx
    by_cases e : x = a
    · simp [e]
    · rw [if_neg e] at hx; exact List.mem_cons_of_mem _ (hall x hx)
  · simp only [MemS.learn] at hx
    by_cases e : x = a
    · rw [if_pos e] at hx; cases hx; exact hu
    · rw [if_neg e] at hx; exact h.oo x v hx
theorem MemAt.back (h : MemAt w g n f o b M k) (hk : k < 1000000) (a : OfK) (ha : ofDom a) (u : Int) (hu : i64ok u) : ∃ w', (Instr.mapUpdate 99 (.map (some b)) (ofVal a) (.int .i64 u)).run Try.prog w = .ok () w' ∧ MemAt w' g n f o b (M.learn (.back a u)) (k + 1) ∧ Near (Is3 f o b) w.heap.size w w' := by
  obtain ⟨L, hL, hall⟩ := h.lb
  obtain ⟨w', hrun, r1, r2⟩ := h.mb.storeA ofKeys L (by unfold maxLen; omega) (fun x _ hx => hall x (by simpa [backsV] using hx)) Try.underlying99 ha (.int .i64 u)
  rw [backsV_learn] at r1
  have st := StayOn.of_turned r2
  refine ⟨w', hrun, ⟨st _ _ trivial h.c0, st _ _ trivial h.c1, st _ _ trivial h.c2, st _ _ trivial h.c3, st _ _ trivial h.c4, ?_, h.mf.turned r2 h.nfb, h.mo.turned r2 h.nob, r1, h.nfo, h.nfb, h.nob, h.lf.imp fun _ x => ⟨by have := x.1; omega, x.2⟩, h.lo.imp fun _ x => ⟨by have := x.1; omega, x.2⟩, ⟨a :: L, by simp; omega, fun x hx => ?_⟩, h.oo, fun x v hx => ?_⟩, Near.of_turned r2 (.inr (.inr rfl))⟩
  · exact h.net.stay st (fun _ _ => trivial) (fun _ _ => trivial) (fun _ _ => ⟨fun _ _ => trivial, fun _ _ => trivial, fun _ _ => trivial⟩) r2.grown.size
  · simp only [MemS.learn] at hx
    by_cases e : x = a
    · simp [e]
    · rw [if_neg e] at hx; exact List.mem_cons_of_mem _ (hall x hx)
  · simp only [MemS.learn] at hx
    by_cases e : x = a
    · rw [if_pos e] at hx; cases hx; exact hu
    · rw [if_neg e] at hx; exact h.ob x v hx
theorem MemAt.lookF (h : MemAt w g n f o b M k) (a : OfK) (ha : ofDom a) : (Instr.lookup 97 (.map (some f)) (ofVal a) false).run Try.prog w = .ok (.bool (M.F a)) w := by
  have := (h.mf.lookA ofKeys Try.underlying97 (z := .bool false) (by kernel_rfl) ha).2
  rw [this]
  simp only [flowsV]
  cases M.F a <;> rfl
theorem MemAt.lookO (h : MemAt w g n f o b M k) (a : PoK) (ha : poDom a) : (Instr.lookup 98 (.map (some o)) (poVal a) true).run Try.prog w = .ok (.tuple #[ownV ((M.O a).getD (0, 0)), .bool (M.O a).isSome]) w := by
  have := (h.mo.lookA poKeys Try.underlying98 (z := ownV (0, 0)) (by kernel_rfl) ha).1
  rw [this]
  simp only [ownersV]
  cases M.O a <;> rfl
theorem MemAt.lookB (h : MemAt w g n f o b M k) (a : OfK) (ha : ofDom a) : (Instr.lookup 99 (.map (some b)) (ofVal a) true).run Try.prog w = .ok (.tuple #[.int .i64 ((M.B a).getD 0), .bool (M.B a).isSome]) w := by
  have := (h.mb.lookA ofKeys Try.underlying99 (z := .int .i64 0) (by kernel_rfl) ha).1
  rw [this]
  simp only [backsV]
  cases M.B a <;> rfl
end
open Bdd
theorem below_alloc2 (w : World) (o : Obj) : RowKit.Below w.heap.size w (w.alloc o) := (RowKit.Below.refl _ _).alloc (Nat.le_refl _) o
section
variable {w w' : World} {B g : Nat} {A : St} {bl : List Nat}
end
def Bx (w : World) (N : Nat) (vs : Array Value) (t : TypeId) : Prop := w.heap[N]? = some (.cells vs t (0, 0))
theorem Bx.new (w : World) (vs : Array Value) (t : TypeId) : Bx (w.alloc (.cells vs t)) w.heap.size vs t := heap_alloc_new w _
theorem Bx.same {w w' : World} {N : Nat} {vs : Array Value} {t : TypeId} (h : Bx w N vs t) (hs : w'.heap[N]? = w.heap[N]?) : Bx w' N vs t := hs.trans h
theorem Bx.lt {w : World} {N : Nat} {vs : Array Value} {t : TypeId} (h : Bx w N vs t) : N < w.heap.size := (Array.getElem?_eq_some_iff.1 h).1
theorem Bx.below {w w' : World} {N : Nat} {vs : Array Value} {t : TypeId} (h : Bx w N vs t) (hb : RowKit.Below w.heap.size w w') : Bx w' N vs t := h.same (hb.block N h.lt)
theorem Bx.get {w : World} {N : Nat} {vs : Array Value} {t : TypeId} (h : Bx w N vs t) (j : Nat) (v : Value) (hv : vs[j]? = some v) : w.cell? ⟨N, j, none⟩ = some v := by
  rw [cell_of_row _ _ _ _ _ _ h]; exact hv
theorem Bx.frozen {w : World} {N : Nat} {vs : Array Value} {t : TypeId} (h : Bx w N vs t) (o : Nat) : w.frozen? ⟨N, o, none⟩ = false := by
  have h' : w.heap[N]? = some (.cells vs t (0, 0)) := h
  unfold World.frozen?
  simp only [h']
  simp
theorem Bx.set {w : World} {N : Nat} {vs : Array Value} {t : TypeId} (h : Bx w N vs t) (j : Nat) (v : Value) : Bx (w.setCell ⟨N, j, none⟩ v) N (vs.setIfInBounds j v) t := by
  have h1 : w.heap[N]? = some (.cells vs t (0, 0)) := h
  have hlt := h.lt
  have h' : w.heap[N] = .cells vs t (0, 0) := by simpa [Array.getElem?_eq_getElem hlt] using h1
  show (w.heap.modify N _)[N]? = _
  rw [Array.getElem?_eq_getElem (by simpa using hlt), Array.getElem_modify_self, h']
  rfl
theorem Bx.far {w : World} {N : Nat} {vs : Array Value} {t : TypeId} (h : Bx w N vs t) (a : Addr) (v : Value) (hn : N ≠ a.block) : Bx (w.setCell a v) N vs t := h.same (RowKit.Below.heap_setCell w a v N hn)
theorem size_setCell (w : World) (a : Addr) (v : Value) : (w.setCell a v).heap.size = w.heap.size := by simp [World.setCell]
section
variable {wr w' : World} {B g base s n : Nat} {A : St} {e : TypeId} {v : Value} {xs : List Value} {bl : List Nat}
end
end Go.Proofs.Ytifkacnoiocebaa
