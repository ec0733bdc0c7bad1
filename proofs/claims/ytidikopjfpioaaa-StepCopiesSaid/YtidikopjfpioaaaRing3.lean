/- All places of a net; the way of a packet, plainly; packet.Check. -/
import Derived.Test.YtidikopjfpioaaaRing2
set_option linter.unusedVariables false
set_option linter.unusedSimpArgs false
namespace Go.Proofs.Ytidikopjfpioaaa
open Go.RowKit

def portsN (ds : List Dev) (i : Nat) : Nat := (portsF (kindAt ds (i : Int))).toNat
theorem portsF_range (k : Int) : 0 ≤ portsF k ∧ portsF k ≤ 4 := by
  unfold portsF
  repeat' split
  all_goals omega

def rowPl (i k : Nat) : List Pl := (List.range k).map fun (j : Nat) => ((i : Int), (j : Int))
def allPl (ds : List Dev) (n : Nat) : List Pl := (List.range n).flatMap fun (i : Nat) => rowPl i (portsN ds i)
theorem mem_allPl {ds : List Dev} {n : Nat} {x : Pl} : x ∈ allPl ds n ↔ (0 ≤ x.1 ∧ x.1 < n) ∧ 0 ≤ x.2 ∧ x.2 < portsF (kindAt ds x.1) := by
  obtain ⟨a, b⟩ := x
  simp only [allPl, rowPl, portsN, List.mem_flatMap, List.mem_range, List.mem_map, Prod.mk.injEq]
  constructor
  · rintro ⟨i, hi, j, hj, rfl, rfl⟩
    have := portsF_range (kindAt ds (i : Int))
    omega
  · rintro ⟨⟨h1, h2⟩, h3, h4⟩
    refine ⟨a.toNat, by omega, b.toNat, ?_, by omega, by omega⟩
    rw [show ((a.toNat : Nat) : Int) = a by omega]
    omega
theorem nodup_rowPl (i k : Nat) : (rowPl i k).Nodup := by
  induction k with
  | zero => simp [rowPl]
  | succ k ih =>
    rw [rowPl, List.range_succ, List.map_append, List.nodup_append]
    refine ⟨ih, by simp, ?_⟩
    intro a ha b hb e
    subst e
    simp only [List.map_cons, List.map_nil, List.mem_cons, List.not_mem_nil, or_false, List.mem_map, List.mem_range] at ha hb
    obtain ⟨j, hj, rfl⟩ := ha
    simp only [Prod.mk.injEq, true_and, Int.natCast_inj] at hb
    omega
theorem nodup_allPl (ds : List Dev) (n : Nat) : (allPl ds n).Nodup := by
  induction n with
  | zero => simp [allPl]
  | succ n ih =>
    rw [allPl, List.range_succ, List.flatMap_append, List.nodup_append]
    refine ⟨ih, by simpa using nodup_rowPl n _, ?_⟩
    intro a ha b hb e
    subst e
    have h1 : a ∈ allPl ds n := ha
    rw [mem_allPl] at h1
    simp only [List.flatMap_cons, List.flatMap_nil, List.append_nil, rowPl, List.mem_map] at hb
    obtain ⟨j, _, rfl⟩ := hb
    have := h1.1.2
    simp only [] at this
    omega
theorem portsN_le (ds : List Dev) (i : Nat) : portsN ds i ≤ 4 := by
  have := portsF_range (kindAt ds (i : Int))
  unfold portsN
  omega
theorem allPl_len (ds : List Dev) (n : Nat) : (allPl ds n).length ≤ n * 4 := by
  induction n with
  | zero => simp [allPl]
  | succ n ih =>
    have e : allPl ds (n + 1) = allPl ds n ++ rowPl n (portsN ds n) := by rw [allPl, List.range_succ, List.flatMap_append]; simp [allPl]
    have h2 := portsN_le ds n
    rw [e, List.length_append]
    simp only [rowPl, List.length_map, List.length_range]
    omega

/-! ### the way of a packet -/
inductive WalkTo (nx : Pl → Option Pl) : List Pl → Pl → List Pl × Bool → Prop
  | stop {out at_} (h : nx at_ = none) : WalkTo nx out at_ (out, false)
  | round {out at_ to_} (h : nx at_ = some to_) (hm : to_ ∈ out) : WalkTo nx out at_ (out, true)
  | step {out at_ to_ r} (h : nx at_ = some to_) (hm : to_ ∉ out) (k : WalkTo nx (out ++ [to_]) to_ r) : WalkTo nx out at_ r
theorem WalkTo.same {nx : Pl → Option Pl} {out : List Pl} {at_ : Pl} {r s : List Pl × Bool} (h : WalkTo nx out at_ r) (k : WalkTo nx out at_ s) : r = s := by
  induction h with
  | stop h =>
    cases k with
    | stop => rfl
    | round h2 _ => rw [h] at h2; cases h2
    | step h2 _ _ => rw [h] at h2; cases h2
  | round h hm =>
    cases k with
    | stop h2 => rw [h] at h2; cases h2
    | round => rfl
    | step h2 hm2 _ => rw [h] at h2; cases h2; exact absurd hm hm2
  | step h hm _ ih =>
    cases k with
    | stop h2 => rw [h] at h2; cases h2
    | round h2 hm2 => rw [h] at h2; cases h2; exact absurd hm2 hm
    | step h2 _ k2 => rw [h] at h2; cases h2; exact ih k2

def nextAt (ds : List Dev) (ls : List LinkV) (p : P4) (x : Pl) : Option Pl := match ds[x.1.toNat]? with
  | some d => nextF ls d x.1 p
  | none => none
theorem nextAt_valid {ds : List Dev} {ls : List LinkV} {p : P4} (h : NetOk ds ls) {x y : Pl} (hx : nextAt ds ls p x = some y) : placeB ds y = true := by
  unfold nextAt at hx
  split at hx
  · unfold nextF at hx
    split at hx
    · exact h.pl _ (peerF_some h.nd hx).2.1
    · cases hx
  · cases hx
/-- What stands of a way: its places are right, each is there once. -/
structure WayOk (ds : List Dev) (out : List Pl) (x : Pl) : Prop where
  nd : out.Nodup
  pl : ∀ y ∈ out, placeB ds y = true
  px : placeB ds x = true
theorem WayOk.len {ds : List Dev} {out : List Pl} {x : Pl} (h : WayOk ds out x) (hd : ds.length ≤ 10) : out.length ≤ 40 := by
  have h1 := length_le_of_subset' out (allPl ds ds.length) h.nd (fun y hy => mem_allPl.2 (placeB_iff.1 (h.pl y hy)))
  have h2 := allPl_len ds ds.length
  omega
theorem WayOk.step {ds : List Dev} {out : List Pl} {x y : Pl} (h : WayOk ds out x) (hm : y ∉ out) (hy : placeB ds y = true) : WayOk ds (out ++ [y]) y :=
  ⟨by rw [List.nodup_append]; exact ⟨h.nd, by simp, fun a ha b hb e => by simp at hb; subst hb; exact hm (e ▸ ha)⟩, fun z hz => by
    rw [List.mem_append, List.mem_singleton] at hz
    rcases hz with hz | rfl
    · exact h.pl z hz
    · exact hy, hy⟩

def walkE (ds : List Dev) (ls : List LinkV) (x : Pl) (p : P4) : Int :=
  if plainE ds ls = 0 then (if placeB ds x = false then 4 else if rightB p = false then 1 else 0) else plainE ds ls
theorem plainE_ok {ds : List Dev} {ls : List LinkV} (h : plainE ds ls = 0) : NetOk ds ls := by
  unfold plainE at h
  split at h
  · exact netE_ok (by assumption)
  · contradiction

/-! ### packet.Check -/
theorem wi16 (a : Int) : inR a 0 15 = (decide (0 ≤ a) && decide (a < 16)) := by
  unfold inR
  rw [Bool.eq_iff_iff]; simp; omega
theorem wi8 (a : Int) : inR a 0 7 = (decide (0 ≤ a) && decide (a < 8)) := by
  unfold inR
  rw [Bool.eq_iff_iff]; simp; omega
set_option maxRecDepth 100000 in
set_option maxHeartbeats 4000000 in
theorem packetCheck_walk (p : P4) (W : World) : Calls Try.prog 46 #[.agg #[.int .i64 p.src, .int .i64 p.dst, .int .i64 p.sport, .int .i64 p.dport]] W fun e W' => e = .returned (.int .i64 (if rightB p then 0 else 1)) ∧ RowKit.Below W.heap.size W W' := by
  obtain ⟨a, b, c, d⟩ := p
  have HB := hide (fun o => show RowKit.Below W.heap.size W (W.alloc o) from (RowKit.Below.refl _ _).alloc (Nat.le_refl _) o)
  have HR := hide (show rightB ⟨a, b, c, d⟩ = (inR a 0 15 && inR b 0 15 && inR c 0 7 && inR d 0 7) from rfl)
  generalize rightB _ = R at *
  cases e1 : inR a 0 15
  · have f1 := hide ((wi16 a).symm.trans e1)
    have HF := hide (show R = false from by rw [HR.out, e1]; rfl)
    rw [HF.out]
    go_enter Try.func46, Try.ntmps46
    go_wp2_with (first | (go_at_call_of 93 (Value.int .i64 a); refine (within_walk _ _ _ _ f1.out).mono ?_; rintro e w1 ⟨rfl, rfl⟩))
    go_ret
    exact ⟨rfl, HB.out _⟩
  have f1 := hide ((wi16 a).symm.trans e1)
  cases e2 : inR b 0 15
  · have f2 := hide ((wi16 b).symm.trans e2)
    have HF := hide (show R = false from by rw [HR.out, e1, e2]; rfl)
    rw [HF.out]
    go_enter Try.func46, Try.ntmps46
    go_wp2_with (first | (go_at_call_of 93 (Value.int .i64 a); refine (within_walk _ _ _ _ f1.out).mono ?_; rintro e w1 ⟨rfl, rfl⟩) | (go_at_call_of 93 (Value.int .i64 b); refine (within_walk _ _ _ _ f2.out).mono ?_; rintro e w1 ⟨rfl, rfl⟩))
    go_ret
    exact ⟨rfl, HB.out _⟩
  have f2 := hide ((wi16 b).symm.trans e2)
  cases e3 : inR c 0 7
  · have f3 := hide ((wi8 c).symm.trans e3)
    have HF := hide (show R = false from by rw [HR.out, e1, e2, e3]; rfl)
    rw [HF.out]
    go_enter Try.func46, Try.ntmps46
    go_wp2_with (first | (go_at_call_of 93 (Value.int .i64 a); refine (within_walk _ _ _ _ f1.out).mono ?_; rintro e w1 ⟨rfl, rfl⟩) | (go_at_call_of 93 (Value.int .i64 b); refine (within_walk _ _ _ _ f2.out).mono ?_; rintro e w1 ⟨rfl, rfl⟩) | (go_at_call_of 93 (Value.int .i64 c); refine (within_walk _ _ _ _ f3.out).mono ?_; rintro e w1 ⟨rfl, rfl⟩))
    go_ret
    exact ⟨rfl, HB.out _⟩
  have f3 := hide ((wi8 c).symm.trans e3)
  cases e4 : inR d 0 7
  · have f4 := hide ((wi8 d).symm.trans e4)
    have HF := hide (show R = false from by rw [HR.out, e1, e2, e3, e4]; rfl)
    rw [HF.out]
    go_enter Try.func46, Try.ntmps46
    go_wp2_with (first | (go_at_call_of 93 (Value.int .i64 a); refine (within_walk _ _ _ _ f1.out).mono ?_; rintro e w1 ⟨rfl, rfl⟩) | (go_at_call_of 93 (Value.int .i64 b); refine (within_walk _ _ _ _ f2.out).mono ?_; rintro e w1 ⟨rfl, rfl⟩) | (go_at_call_of 93 (Value.int .i64 c); refine (within_walk _ _ _ _ f3.out).mono ?_; rintro e w1 ⟨rfl, rfl⟩) | (go_at_call_of 93 (Value.int .i64 d); refine (within_walk _ _ _ _ f4.out).mono ?_; rintro e w1 ⟨rfl, rfl⟩))
    go_ret
    exact ⟨rfl, HB.out _⟩
  · have f4 := hide ((wi8 d).symm.trans e4)
    have HF := hide (show R = true from by rw [HR.out, e1, e2, e3, e4]; rfl)
    rw [HF.out]
    go_enter Try.func46, Try.ntmps46
    go_wp2_with (first | (go_at_call_of 93 (Value.int .i64 a); refine (within_walk _ _ _ _ f1.out).mono ?_; rintro e w1 ⟨rfl, rfl⟩) | (go_at_call_of 93 (Value.int .i64 b); refine (within_walk _ _ _ _ f2.out).mono ?_; rintro e w1 ⟨rfl, rfl⟩) | (go_at_call_of 93 (Value.int .i64 c); refine (within_walk _ _ _ _ f3.out).mono ?_; rintro e w1 ⟨rfl, rfl⟩) | (go_at_call_of 93 (Value.int .i64 d); refine (within_walk _ _ _ _ f4.out).mono ?_; rintro e w1 ⟨rfl, rfl⟩))
    go_ret
    exact ⟨rfl, HB.out _⟩
end Go.Proofs.Ytidikopjfpioaaa
