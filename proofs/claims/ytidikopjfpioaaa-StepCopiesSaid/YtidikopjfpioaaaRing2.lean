/- ring.next. -/
import Derived.Test.YtidikopjfpioaaaRing1
set_option linter.unusedVariables false
set_option linter.unusedSimpArgs false
namespace Go.Proofs.Ytidikopjfpioaaa
open Go.RowKit

/-- Boxes, one behind the other. -/
theorem boxesL : ∀ (l : List (Array Value × TypeId)) (W : World) {W' : World}, RowKit.Below (W.heap.size + l.length) (l.foldl (fun w x => w.alloc (.cells x.1 x.2)) W) W' →
    (∀ (i : Nat) c t, l[i]? = some (c, t) → ∀ (o : Nat) (v : Value), c[o]? = some v → W'.cell? ⟨W.heap.size + i, o, none⟩ = some v) ∧ RowKit.Below W.heap.size W W' ∧ W.heap.size + l.length ≤ W'.heap.size := by
  intro l
  induction l with
  | nil =>
    intro W W' hb
    exact ⟨fun i c t h => by simp at h, by simpa using hb, by have := hb.size; simpa using this⟩
  | cons x l ih =>
    intro W W' hb
    have hz : (W.alloc (.cells x.1 x.2)).heap.size = W.heap.size + 1 := by simp
    obtain ⟨h1, h2, h3⟩ := ih (W.alloc (.cells x.1 x.2)) (W' := W') (by
      rw [hz]
      simp only [List.foldl_cons, List.length_cons] at hb
      rw [show W.heap.size + 1 + l.length = W.heap.size + (l.length + 1) by omega]
      exact hb)
    refine ⟨fun i c t hi o v hv => ?_, ((RowKit.Below.refl _ _).alloc (Nat.le_refl _) _).trans (h2.mono (by omega)), by rw [hz] at h3; simp only [List.length_cons]; omega⟩
    cases i with
    | zero =>
      cases hi
      rw [hz] at h2
      exact cell_new W _ _ rfl h2 o v hv
    | succ i =>
      have := h1 i c t (by simpa using hi) o v hv
      rw [hz] at this
      rw [show W.heap.size + (i + 1) = W.heap.size + 1 + i by omega]
      exact this
theorem boxesL_size : ∀ (l : List (Array Value × TypeId)) (W : World), (l.foldl (fun w x => w.alloc (.cells x.1 x.2)) W).heap.size = W.heap.size + l.length := by
  intro l
  induction l with
  | nil => intro W; rfl
  | cons x l ih => intro W; rw [List.foldl_cons, ih]; simp; omega

theorem le3 (n : Nat) : n ≤ n + 1 + 1 + 1 := by omega
def nextF (ls : List LinkV) (d : Dev) (i : Int) (p : P4) : Option Pl :=
  if (d.kind == 2) && decide (0 ≤ (outF p.dst d.routes).2) && letsB d.rules p then peerF ls (i, (outF p.dst d.routes).1) else none

set_option maxRecDepth 100000 in
set_option maxHeartbeats 8000000 in
theorem next_walk (n : NetV) (i : Nat) (y : Int) (p : P4) (r : DevV) (W : World) (hn : NetAt W W.heap.size n) (hr : n.ds[i]? = some r) (hp : p.ok) :
    Calls Try.prog 65 #[n.val, .agg #[.int .i64 (i : Int), .int .i64 y], .agg #[.int .i64 p.src, .int .i64 p.dst, .int .i64 p.sport, .int .i64 p.dport]] W fun e W' => e = .returned (peerV (nextF n.ls r.dev (i : Int) p)) ∧ RowKit.Below W.heap.size W W' := by
  have hm : n.dn ≤ 9223372036854775807 ∧ n.ln ≤ 9223372036854775807 := by have h1 := hn.cd.1; have h2 := hn.cd.2; have h3 := hn.cl.1; have h4 := hn.cl.2; unfold maxLen at h2 h4; omega
  have hil : i < n.dn := by have := (List.getElem?_eq_some_iff.1 hr).1; have := hn.dlen; omega
  have HNW := hide hn
  have HP := hide hp
  have HRR := hide hr
  have HNX := hide (show nextF n.ls r.dev (i : Int) p = if (r.kind == 2) && decide (0 ≤ (outF p.dst r.ts).2) && letsB r.rs p then peerF n.ls ((i : Int), (outF p.dst r.ts).1) else none from rfl)
  clear hn hp
  obtain ⟨dA, dn, dc, ds, lA, ln, lc, ls⟩ := n
  obtain ⟨hm1, hm2⟩ := hm
  generalize nextF _ _ _ _ = NX at *
  simp only [NetV.val] at *
  have i1 : (0 : Int) ≤ (i : Int) := by omega
  have i2 : (i : Int) < (dn : Int) := by omega
  obtain ⟨b, o, rfl, _, _⟩ := HNW.out.ds.2 (by show 0 < dn; omega)
  have hb0 : ∀ o0 o1 o2 o3, RowKit.Below W.heap.size W ((((W.alloc o0).alloc o1).alloc o2).alloc o3) := fun o0 o1 o2 o3 => ((((RowKit.Below.refl _ _).alloc (Nat.le_refl _) _).alloc (by simp) _).alloc (by simp; omega) _).alloc (by simp; omega) _
  have q0 := fun o0 o1 o2 o3 => (dev_get (HNW.out.ds.below (hb0 o0 o1 o2 o3) (Nat.le_refl _)) hr).2.1
  have q1 := fun o0 o1 o2 o3 => (dev_get (HNW.out.ds.below (hb0 o0 o1 o2 o3) (Nat.le_refl _)) hr).2.2.1
  have q2 := fun o0 o1 o2 o3 => (dev_get (HNW.out.ds.below (hb0 o0 o1 o2 o3) (Nat.le_refl _)) hr).2.2.2.1
  have q3 := fun o0 o1 o2 o3 => (dev_get (HNW.out.ds.below (hb0 o0 o1 o2 o3) (Nat.le_refl _)) hr).2.2.2.2.1
  have q4 := fun o0 o1 o2 o3 => (dev_get (HNW.out.ds.below (hb0 o0 o1 o2 o3) (Nat.le_refl _)) hr).2.2.2.2.2.1
  have q5 := fun o0 o1 o2 o3 => (dev_get (HNW.out.ds.below (hb0 o0 o1 o2 o3) (Nat.le_refl _)) hr).2.2.2.2.2.2.1
  have q6 := fun o0 o1 o2 o3 => (dev_get (HNW.out.ds.below (hb0 o0 o1 o2 o3) (Nat.le_refl _)) hr).2.2.2.2.2.2.2
  have hdok := HNW.out.dok r (List.mem_of_getElem? hr)
  have htl := hdok.ct
  have hrl := hdok.cr
  have htok := hdok.tok
  clear hb0 hr hdok
  obtain ⟨nm, kd, ad, pl, bA, bn, bc, bs, rA, rn, rc, rs, tA, tn, tc, ts⟩ := r
  simp only at htl hrl htok HNX q0 q1 q2 q3 q4 q5 q6
  have HTK := hide htok
  have HT := hide (show tn ≤ 9223372036854775807 ∧ rn ≤ 9223372036854775807 ∧ tn ≤ maxLen from by unfold maxLen at *; omega)
  clear htl hrl htok
  go_enter Try.func65, Try.ntmps65
  go_wp2_with fail
  clear q0 q1 q2 q3 q4 q5 q6
  generalize hG : World.alloc (World.alloc (World.alloc (World.alloc (World.alloc W _) _) _) _) _ = W1
  have hz : W1.heap.size = W.heap.size + 5 := by rw [← hG]; simp
  have HQ := hide (fun (w' : World) (hb : RowKit.Below W1.heap.size W1 w') => show ((w'.cell? ⟨W.heap.size, 0, none⟩ = some (.slice (some ⟨b, o, none⟩) dn dc) ∧ w'.cell? ⟨W.heap.size, 1, none⟩ = some (.slice lA ln lc)) ∧ w'.cell? ⟨W.heap.size + 1, 0, none⟩ = some (.int .i64 (i : Int)) ∧ PackAt w' (W.heap.size + 1 + 1) p ∧ w'.cell? ⟨W.heap.size + 1 + 1 + 1 + 1, 1, none⟩ = some (.int .i64 kd) ∧ w'.cell? ⟨W.heap.size + 1 + 1 + 1 + 1, 5, none⟩ = some (.slice rA rn rc)) ∧ NetAt w' w'.heap.size ⟨some ⟨b, o, none⟩, dn, dc, ds, lA, ln, lc, ls⟩ ∧ RowKit.Below W.heap.size W w' ∧ Box2 w' (W.heap.size + 1 + 1 + 1) 0 0 from by
    have hbB : Box2 W1 (W.heap.size + 1 + 1 + 1) 0 0 := by
      rw [← hG]
      have := (Box2.new (((W.alloc (.cells #[.slice (some ⟨b, o, none⟩) dn dc, .slice lA ln lc] 25)).alloc (.cells #[.int .i64 (i : Int), .int .i64 y] 34)).alloc (.cells #[.int .i64 p.src, .int .i64 p.dst, .int .i64 p.sport, .int .i64 p.dport] 42)) 0 0 34).below ((RowKit.Below.refl _ _).alloc (Nat.le_refl _) (.cells #[.string nm, .int .i64 kd, .int .i64 ad, .int .u8 pl, .slice bA bn bc, .slice rA rn rc, .slice tA tn tc] 30)) (by simp)
      simpa using this
    have hbox := hbB.below hb (by omega)
    rw [hz, ← hG] at hb
    obtain ⟨c, h1, h2⟩ := boxesL [(#[.slice (some ⟨b, o, none⟩) dn dc, .slice lA ln lc], 25), (#[.int .i64 (i : Int), .int .i64 y], 34), (#[.int .i64 p.src, .int .i64 p.dst, .int .i64 p.sport, .int .i64 p.dport], 42), (#[.int .i64 0, .int .i64 0], 34), (#[.string nm, .int .i64 kd, .int .i64 ad, .int .u8 pl, .slice bA bn bc, .slice rA rn rc, .slice tA tn tc], 30)] W hb
    exact ⟨⟨⟨c 0 _ _ rfl 0 _ rfl, c 0 _ _ rfl 1 _ rfl⟩, c 1 _ _ rfl 0 _ rfl, ⟨c 2 _ _ rfl 0 _ rfl, c 2 _ _ rfl 1 _ rfl, c 2 _ _ rfl 2 _ rfl, c 2 _ _ rfl 3 _ rfl⟩, c 4 _ _ rfl 1 _ rfl, c 4 _ _ rfl 5 _ rfl⟩, HNW.out.below h1 h1.size, h1, hbox⟩)
  have HZ := hide hz
  clear hG hz
  have HR := hide (RowKit.Below.refl W1.heap.size W1)
  have HDK := hide (fun (w' : World) (hb : RowKit.Below W1.heap.size W1 w') => (HQ.out w' hb).2.1.dok _ (List.mem_of_getElem? HRR.out))
  have HO := hide (out_any ts tA tn tc p.dst W1 HT.out.2.2 HP.out.2.1 (HDK.out W1 HR.out).ts HTK.out)
  have HLW := hide (fun (w' : World) (hb : RowKit.Below W1.heap.size W1 w') => lets_walk rs rA rn rc p w' HT.out.2.1 HP.out (HDK.out w' hb).rs)
  generalize outF p.dst ts = OF at *
  generalize letsB rs p = LB at *
  obtain ⟨op, ob⟩ := OF
  simp only at HO HNX
  refine HO.out.mono ?_
  clear HO
  rintro e w2 ⟨rfl, hb⟩
  have HB2 := hide hb
  clear hb
  obtain ⟨⟨⟨x0, x1⟩, x2, ⟨y0, y1, y2, y3⟩, x3, x4⟩, hna, _, _⟩ := HQ.out w2 HB2.out
  have HNA := hide hna
  clear hna
  cases e1 : (kd == 2)
  · have e1n : (kd != 2) = true := by simp [bne, e1]
    have e1p : ¬ kd = 2 := by simpa using e1
    have HF := hide (show NX = none from by rw [HNX.out]; simp [e1])
    obtain ⟨z0, z1, z2, z3⟩ := (HQ.out _ HB2.out).2.2.2
    go_wp2
    refine bodyPost_ret (v := .tuple #[.agg #[.int .i64 0, .int .i64 0], .bool false]) (by simp [results, Try.results65, go_sem, z0, z1]) rfl ⟨by rw [HF.out]; rfl, ?_⟩
    exact ((HQ.out _ HB2.out).2.2.1.setCell (le3 _) _).setCell (le3 _) _
  obtain rfl : kd = 2 := by simpa using e1
  cases e2 : decide (0 ≤ ob)
  · have HF := hide (show NX = none from by rw [HNX.out]; simp [e2])
    obtain ⟨z0, z1, z2, z3⟩ := (HQ.out _ HB2.out).2.2.2
    go_wp2
    refine bodyPost_ret (v := .tuple #[.agg #[.int .i64 0, .int .i64 0], .bool false]) (by simp [results, Try.results65, go_sem, z0, z1]) rfl ⟨by rw [HF.out]; rfl, ?_⟩
    exact ((HQ.out _ HB2.out).2.2.1.setCell (le3 _) _).setCell (le3 _) _
  go_wp2_with fail
  refine (HLW.out w2 HB2.out).mono ?_
  rintro e w3 ⟨rfl, hb⟩
  have HB3 := hide (HB2.out.trans (hb.mono HB2.out.size))
  clear hb x0 x1 x2 x3 x4 y0 y1 y2 y3 HNA
  obtain ⟨⟨⟨x0, x1⟩, x2, ⟨y0, y1, y2, y3⟩, x3, x4⟩, hna, _, _⟩ := HQ.out w3 HB3.out
  have HNA := hide hna
  clear hna
  cases LB
  · have HF := hide (show NX = none from by rw [HNX.out]; simp [e2])
    obtain ⟨z0, z1, z2, z3⟩ := (HQ.out _ HB3.out).2.2.2
    go_wp2
    refine bodyPost_ret (v := .tuple #[.agg #[.int .i64 0, .int .i64 0], .bool false]) (by simp [results, Try.results65, go_sem, z0, z1]) rfl ⟨by rw [HF.out]; rfl, ?_⟩
    exact ((HQ.out _ HB3.out).2.2.1.setCell (le3 _) _).setCell (le3 _) _
  have HF := hide (show NX = peerF ls ((i : Int), op) from by rw [HNX.out]; simp [e2])
  have HPE := hide (peer_any (some ⟨b, o, none⟩) dn dc lA ln lc ls (i : Int) op w3 hm2 HNA.out.ls)
  clear e1 e2 HNX
  go_wp2_with fail
  refine HPE.out.mono ?_
  clear HPE x0 x1 x2 x3 x4 y0 y1 y2 y3 HNA
  rintro e w4 ⟨rfl, hb⟩
  rw [← HF.out]
  have HB4 := hide (HB3.out.trans (hb.mono HB3.out.size))
  clear hb
  obtain ⟨z0, z1, z2, z3⟩ := (HQ.out _ HB4.out).2.2.2
  cases NX with
  | none =>
    simp only [peerV]
    go_wp2
    refine bodyPost_ret (v := .tuple #[.agg #[.int .i64 0, .int .i64 0], .bool false]) (by simp [results, Try.results65, go_sem, z0, z1]) rfl ⟨rfl, ?_⟩
    exact ((HQ.out _ HB4.out).2.2.1.setCell (le3 _) _).setCell (le3 _) _
  | some to =>
    obtain ⟨t1, t2⟩ := to
    simp only [peerV]
    go_wp2
    refine bodyPost_ret (v := .tuple #[.agg #[.int .i64 t1, .int .i64 t2], .bool true]) (by simp [results, Try.results65, go_sem, z0, z1]) rfl ⟨rfl, ?_⟩
    exact ((HQ.out _ HB4.out).2.2.1.setCell (le3 _) _).setCell (le3 _) _
end Go.Proofs.Ytidikopjfpioaaa
