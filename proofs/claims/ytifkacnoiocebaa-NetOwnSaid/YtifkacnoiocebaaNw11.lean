/- A part of the proof: StepNatO. -/
import Derived.Test.YtifkacnoiocebaaNw10
set_option linter.unusedVariables false
set_option linter.unusedSimpArgs false
set_option maxRecDepth 100000
set_option maxHeartbeats 16000000
namespace Go.Proofs.Ytifkacnoiocebaa
open Go.Maps Go.RowKit
theorem bit_u8_no (s k : Nat) (hs : s < 256) : (bits .and .u8 ((s : Int) / 2 ^ k) 1 == 0) = !s.testBit k := by
  have h1 : s / 2 ^ k < 256 := Nat.lt_of_le_of_lt (Nat.div_le_self _ _) hs
  have := u8_and (s / 2 ^ k) 1 h1 (by omega)
  rw [div_pow_cast, show (1 : Int) = ((1 : Nat) : Int) from rfl, this, ← testBit_div]
  have h2 : s / 2 ^ k &&& 1 = 0 ∨ s / 2 ^ k &&& 1 = 1 := by rw [Nat.and_one_is_mod]; omega
  rcases h2 with h2 | h2 <;> rw [h2] <;> rfl
theorem nat_out (g : Nat) (n : NetV) (f o b : Nat) (M : MemS) (k : Nat) (i : Nat) (y : Int) (r : DevV) (p : P4) (ch : Int) (W : World) (hM : MemAt W g n f o b M k) (hr : n.ds[i]? = some r) (hn : n.dn ≤ 10) (hp : p.ok) (hy : y ≠ 1) (hch : i64ok ch) :
    Calls Try.prog 60 #[.pointer (some ⟨g, 0, none⟩), .agg #[.int .i64 (i : Int), .int .i64 y], .agg #[.int .i64 p.src, .int .i64 p.dst, .int .i64 p.sport, .int .i64 p.dport], .int .i64 ch] W fun e W' =>
      ∃ v, e = .returned (.tuple #[goneV (natH r.dev M i y p ch).1.port (natH r.dev M i y p ch).1.q v, .bool (natH r.dev M i y p ch).2.1, .int .i64 (natH r.dev M i y p ch).2.2]) ∧ KnowAt W.heap.size W' g n f o b v (natH r.dev M i y p ch).1.kn ∧ Below W.heap.size W W' := by
  have hia : i64ok (i : Int) := by have : i < n.dn := (by rw [← hM.net.dlen]; exact (List.getElem?_eq_some_iff.1 hr).1); unfold i64ok; omega
  have hpl : r.pool < 256 := (hM.net.dok r (List.mem_of_getElem? hr)).pl
  obtain ⟨u, v, tb, hlk, htb⟩ : ∃ u v tb, ((0 ≤ ch ∧ ch < 8) → ∀ w', MemAt w' g n f o b M k → (Instr.lookup 98 (.map (some o)) (.agg #[.int .i64 (i : Int), .int .i64 ch]) true).run Try.prog w' = .ok (.tuple #[.agg #[.int .i64 u, .int .i64 v], .bool tb]) w') ∧ (M.O ((i : Int), ch)).isSome = tb := by
    cases hO : M.O ((i : Int), ch) with
    | none =>
      refine ⟨0, 0, false, fun hc w' hm => ?_, rfl⟩
      have := hm.lookO ((i : Int), ch) ⟨hia, hch⟩; rw [hO] at this; exact this
    | some x =>
      refine ⟨x.1, x.2, true, fun hc w' hm => ?_, rfl⟩
      have := hm.lookO ((i : Int), ch) ⟨hia, hch⟩; rw [hO] at this; exact this
  obtain ⟨x, hx⟩ : ∃ x, mineF M i (p.src, p.sport) = x := ⟨_, rfl⟩
  have hres : natH r.dev M i y p ch = if 0 ≤ x then (⟨1, ⟨r.addr, p.dst, x, p.dport⟩, .owner (i, x) (p.src, p.sport)⟩, true, 0)
      else if ch < 0 ∨ 8 ≤ ch ∨ r.pool.testBit ch.toNat = false then (.zero, false, 1) else if tb = true then (.zero, false, 6)
      else (⟨1, ⟨r.addr, p.dst, ch, p.dport⟩, .owner (i, ch) (p.src, p.sport)⟩, true, 0) := by
    rw [natH, if_neg hy, hx, htb]
    rfl
  have hxi : i64ok x := by rw [← hx]; exact mine_ok M i _ 8 0 (by omega)
  obtain ⟨NF, hNF⟩ : ∃ NF, natH r.dev M i y p ch = NF := ⟨_, rfl⟩
  rw [hNF] at hres ⊢
  have HNF := hide hres
  have HLK := hide hlk
  have HMX := hide (fun w hm => show Calls Try.prog 72 #[.pointer (some ⟨g, 0, none⟩), .int .i64 (i : Int), .agg #[.int .i64 p.src, .int .i64 p.sport]] w fun e W' => e = .returned (.int .i64 x) ∧ Below w.heap.size w W' from by
    rw [← hx]; exact mine_walk g n f o b M k i p.src p.sport w hm hia)
  have d0 : (y == 1) = false := by simpa using hy
  have HXI := hide hxi
  have HIA := hide hia
  clear hres hlk hNF hx htb hy hxi hia
  have HMA := hide (fun (w' : World) (hb : Below W.heap.size W w') => hM.below hb)
  have hin : i < n.dn := by rw [← hM.net.dlen]; exact (List.getElem?_eq_some_iff.1 hr).1
  clear hM
  obtain ⟨dA, dn, dc, ds, lA, ln, lc, ls⟩ := n
  simp only at hr hn hin
  obtain ⟨db, od, rfl, hdb, _⟩ := (HMA.out _ (Below.refl _ _)).net.ds.2 (by show 0 < dn; omega)
  have HRR := hide hr
  clear hr hdb
  have i1 : (0 : Int) ≤ (i : Int) := by omega
  have i2 : (i : Int) < (dn : Int) := by omega
  have i3 : (dn : Int) ≤ 10 := by omega
  go_enter Try.func60, Try.ntmps60
  go_wp2
  generalize hG : World.alloc (World.alloc (World.alloc (World.alloc W _) _) _) _ = W1
  have HW1 := hide (show W1.heap.size = W.heap.size + 4 from by rw [← hG]; simp)
  have HQ := hide (fun (B : Nat) (w' : World) (hb : Below B W1 w') => boxesV (B := B) [(#[.pointer (some ⟨g, 0, none⟩)], 72), (#[.int .i64 (i : Int), .int .i64 y], 45), (#[.int .i64 p.src, .int .i64 p.dst, .int .i64 p.sport, .int .i64 p.dport], 38), (#[.int .i64 0, .int .i64 0, .int .i64 0, .int .i64 0, .int .i64 0, .nilFunc], 110)] W (W' := w') (by rw [← hG] at hb; exact hb))
  clear hG
  have HBB := hide (fun (w' : World) (hb : Below W1.heap.size W1 w') => show Below W.heap.size W w' from (HQ.out _ w' hb).2 (by rw [HW1.out]; omega))
  have HF := hide (fun (w' : World) (hb : Below W1.heap.size W1 w') => show
      (w'.cell? ⟨W.heap.size, 0, none⟩ = some (.pointer (some ⟨g, 0, none⟩)) ∧ w'.cell? ⟨W.heap.size + 1, 0, none⟩ = some (.int .i64 (i : Int)) ∧
      w'.cell? ⟨g, 0, none⟩ = some (.slice (some ⟨db, od, none⟩) dn dc) ∧
      (w'.cell? ⟨db, od + i * 7, none⟩ = some (.string r.name) ∧ w'.cell? ⟨db, od + i * 7 + 1, none⟩ = some (.int .i64 r.kind) ∧ w'.cell? ⟨db, od + i * 7 + 2, none⟩ = some (.int .i64 r.addr) ∧ w'.cell? ⟨db, od + i * 7 + 3, none⟩ = some (.int .u8 r.pool) ∧
      w'.cell? ⟨db, od + i * 7 + 4, none⟩ = some (.slice r.bA r.bn r.bc) ∧ w'.cell? ⟨db, od + i * 7 + 5, none⟩ = some (.slice r.rA r.rn r.rc) ∧ w'.cell? ⟨db, od + i * 7 + 6, none⟩ = some (.slice r.tA r.tn r.tc))) from by
    have x0 := (HQ.out _ w' hb).1 0 _ _ rfl (by rw [HW1.out]; omega)
    have x1 := (HQ.out _ w' hb).1 1 _ _ rfl (by rw [HW1.out]; omega)
    have hm := HMA.out _ (HBB.out w' hb)
    obtain ⟨_, q0, q1, q2, q3, q4, q5, q6⟩ := dev_get hm.net.ds HRR.out
    exact ⟨x0.1 0 _ rfl, x1.1 0 _ rfl, hm.c0, q0, q1, q2, q3, q4, q5, q6⟩)
  refine wp_region_E (fun w' => Below W1.heap.size W1 w') 10 (by kernel_rfl) ((Below.refl _ _).drew) (fun hS => ?_)
  refine rL 0 [10] rfl hS (by intro w hSw; obtain ⟨s0, s1, s2, ⟨s3, s4, s5, s6, s7, s8, s9⟩⟩ := HF.out _ hSw; go_simp; try with_reducible rfl) ?_
  refine rP 1 hS ?_
  refine rP 2 hS ?_
  refine rP 3 hS ?_
  refine rL 4 [10] rfl hS (by intro w hSw; obtain ⟨s0, s1, s2, ⟨s3, s4, s5, s6, s7, s8, s9⟩⟩ := HF.out _ hSw; go_simp; try with_reducible rfl) ?_
  refine rP 5 hS ?_
  refine rL 6 [10] rfl hS (by intro w hSw; obtain ⟨s0, s1, s2, ⟨s3, s4, s5, s6, s7, s8, s9⟩⟩ := HF.out _ hSw; go_simp; try with_reducible rfl) ?_
  refine rP 7 hS ?_
  refine rL 8 [10] rfl hS (by intro w hSw; obtain ⟨s0, s1, s2, ⟨s3, s4, s5, s6, s7, s8, s9⟩⟩ := HF.out _ hSw; go_simp; try with_reducible rfl) ?_
  intro inv
  refine rO 9 inv fun K hK => ?_
  go_simp
  refine hK.out _ _ (fun _ => (hS.alloc hS.size _)) ?_
  clear hK K hS inv
  intro inv
  try simp only [Act.put, nrmA, nrmB, nrmC]
  have hxz : BoxV ((W1.alloc (.cells #[.string ⟨#[]⟩, .int .i64 0, .int .i64 0, .int .u8 0, .slice none 0 0, .slice none 0 0, .slice none 0 0] 61)).drew) W1.heap.size #[.string ⟨#[]⟩, .int .i64 0, .int .i64 0, .int .u8 0, .slice none 0 0, .slice none 0 0, .slice none 0 0] := (BoxV.new W1 _ _).below ((Below.refl (W1.heap.size + 1) _).drew) (Nat.lt_succ_self _)
  have hbz : Below W1.heap.size W1 ((W1.alloc (.cells #[.string ⟨#[]⟩, .int .i64 0, .int .i64 0, .int .u8 0, .slice none 0 0, .slice none 0 0, .slice none 0 0] 61)).drew) := ((Below.refl _ _).alloc (Nat.le_refl _) _).drew
  have HXZ := hide hxz
  clear hxz
  refine rT 10 inv fun K hK => ?_
  rw [if_pos (by rfl)]
  refine wp_store_mid _ _ _ rfl _ _ r.arr rfl rfl (HXZ.out.there (Nat.le_refl _)) info_device (by first | exact DevV.arr_one _ | simp [Value.oneCell']) ?_
  refine hK.out _ _ ?_
  clear hK K inv
  intro inv
  try simp only [Act.put, nrmA, nrmB, nrmC]
  refine rD ?_
  clear inv
  have hA : AtDev W g ⟨some ⟨db, od, none⟩, dn, dc, ds, lA, ln, lc, ls⟩ f o b M k i y p r W1.heap.size (((W1.alloc (.cells #[.string ⟨#[]⟩, .int .i64 0, .int .i64 0, .int .u8 0, .slice none 0 0, .slice none 0 0, .slice none 0 0] 61)).drew).setCells W1.heap.size 0 r.arr.toList) := by
    have hb2 := below_setCells (B := W1.heap.size) (Nat.le_refl _) r.arr.toList 0 _ hbz
    have h1 := HW1.out
    have hd := HXZ.out.all r.arr.toList rfl
    rw [Array.toArray_toList] at hd
    have hlt : W1.heap.size < (((W1.alloc (.cells #[.string ⟨#[]⟩, .int .i64 0, .int .i64 0, .int .u8 0, .slice none 0 0, .slice none 0 0, .slice none 0 0] 61)).drew).setCells W1.heap.size 0 r.arr.toList).heap.size := by
      have := (below_setCells (B := W1.heap.size) (Nat.le_refl _) r.arr.toList 0 ((W1.alloc (.cells #[.string ⟨#[]⟩, .int .i64 0, .int .i64 0, .int .u8 0, .slice none 0 0, .slice none 0 0, .slice none 0 0] 61)).drew) (Below.refl _ _)).size
      have e : ((W1.alloc (.cells #[.string ⟨#[]⟩, .int .i64 0, .int .i64 0, .int .u8 0, .slice none 0 0, .slice none 0 0, .slice none 0 0] 61)).drew).heap.size = W1.heap.size + 1 := by simp
      omega
    exact ⟨HMA.out, HBB.out _ hb2, (HQ.out _ _ hb2).1 0 _ _ rfl (by omega), (HQ.out _ _ hb2).1 1 _ _ rfl (by omega), (HQ.out _ _ hb2).1 2 _ _ rfl (by omega), (HQ.out _ _ hb2).1 3 _ _ rfl (by omega), hd, by omega, hlt⟩
  obtain ⟨G, hG⟩ : ∃ G, W1.heap.size = G := ⟨_, rfl⟩
  rw [hG] at hA ⊢
  clear hG hbz HXZ HF HQ HBB HMA HW1
  generalize World.setCells _ _ _ _ = w2 at *
  have HA := hide hA
  clear hA i1 i2 i3
  have HA2 := hide (fun (w' : World) (hb : Below w2.heap.size w2 w') => HA.out.below hb)
  have k1 : w2.cell? ⟨W.heap.size + 1, 1, none⟩ = some (.int .i64 y) := HA.out.b1.1 1 _ rfl
  have k2 : w2.cell? ⟨W.heap.size + 1 + 1, 0, none⟩ = some (.int .i64 p.src) := HA.out.b2.1 0 _ rfl
  have k3 : w2.cell? ⟨W.heap.size + 1 + 1, 2, none⟩ = some (.int .i64 p.sport) := HA.out.b2.1 2 _ rfl
  have HAO := hide (fun o' => HA2.out (w2.alloc o') ((Below.refl _ _).alloc (Nat.le_refl _) o'))
  have k4 : ∀ o', (w2.alloc o').cell? ⟨W.heap.size, 0, none⟩ = some (.pointer (some ⟨g, 0, none⟩)) := fun o' => (HAO.out o').b0.1 0 _ rfl
  have k5 : ∀ o', (w2.alloc o').cell? ⟨W.heap.size + 1, 0, none⟩ = some (.int .i64 (i : Int)) := fun o' => (HAO.out o').b1.1 0 _ rfl
  go_wp2_with fail
  have hx3 := BoxV.new w2 #[.int .i64 p.src, .int .i64 p.sport] 120
  have hz3 : (w2.alloc (.cells #[.int .i64 p.src, .int .i64 p.sport] 120)).heap.size = w2.heap.size + 1 := by simp
  have ha3 := HAO.out (.cells #[.int .i64 p.src, .int .i64 p.sport] 120)
  have hl3 := HA.out.lt
  clear HA2 HAO k1 k2 k3 k4 k5 HA d0
  generalize hH : w2.heap.size = H at *
  clear hH
  generalize World.alloc w2 _ = w3 at *
  refine (HMX.out w3 ha3.mem).mono ?_
  clear HMX
  rintro e w4 ⟨rfl, hb⟩
  have HA4 := hide (ha3.below hb)
  have HX4 := hide (hx3.below hb (by omega))
  have HL4 := hide (show G < H ∧ H < w4.heap.size from ⟨hl3, by have := hb.size; omega⟩)
  have HA4O := hide (fun o' => HA4.out.alloc o')
  clear ha3 hx3 hz3 hl3 hb
  by_cases hx0 : 0 ≤ x
  · have HN2 := hide (HNF.out.trans (if_pos hx0))
    clear HNF HLK
    go_wp2
    have hx5 := BoxV.new w4 #[.int .i64 x] 3
    have ha5 := HA4O.out (.cells #[.int .i64 x] 3)
    have ho5 := HX4.out.below ((Below.refl _ w4).alloc (Nat.le_refl _) (.cells #[.int .i64 x] 3)) HL4.out.2
    have hz5 : (w4.alloc (.cells #[.int .i64 x] 3)).heap.size = w4.heap.size + 1 := by simp
    have hl5 := HL4.out
    clear HA4 HA4O HX4 HL4
    generalize hN : w4.heap.size = N at *
    clear hN
    generalize World.alloc w4 _ = w5 at *
    have HA5 := hide ha5
    have HO5 := hide ho5
    have HN5 := hide hx5
    have HL5 := hide (show G < H ∧ H < N ∧ N < w5.heap.size from ⟨hl5.1, hl5.2, by omega⟩)
    clear ha5 ho5 hx5 hl5 hz5
    have HBG := hide (fun (a : Addr) (v : Value) (ha : a.block = W.heap.size + 1 + 1) (w' : World) (h : BoxV w' G r.arr ∧ BoxV w' N #[.int .i64 x]) => show BoxV (w'.setCell a v) G r.arr ∧ BoxV (w'.setCell a v) N #[.int .i64 x] from
      ⟨h.1.far _ _ (by rw [ha]; have := HA5.out.hg; omega), h.2.far _ _ (by rw [ha]; have := HA5.out.hg; have := HL5.out; omega)⟩)
    refine wp_region_E (fun w' => BoxV w' G r.arr ∧ BoxV w' N #[.int .i64 x]) 6 (by kernel_rfl) (show BoxV w5.drew G r.arr ∧ BoxV w5.drew N #[.int .i64 x] from ⟨HA5.out.bd.below ((Below.refl (G + 1) _).drew) (Nat.lt_succ_self _), HN5.out.below ((Below.refl (N + 1) _).drew) (Nat.lt_succ_self _)⟩) (fun hS => ?_)
    refine rP 0 hS ?_
    refine rL 1 [6] rfl hS (by intro w hSw; have t0 : w.cell? ⟨G, 2, none⟩ = some (.int .i64 r.addr) := hSw.1.1 2 _ rfl; have t1 := hSw.2.1 0 _ rfl; go_simp; try with_reducible rfl) ?_
    refine rL 2 [6] rfl hS (by intro w hSw; have t0 : w.cell? ⟨G, 2, none⟩ = some (.int .i64 r.addr) := hSw.1.1 2 _ rfl; have t1 := hSw.2.1 0 _ rfl; go_simp; try with_reducible rfl) ?_
    refine rP 3 hS ?_
    intro inv
    have k1 : w5.cell? ⟨W.heap.size + 1 + 1, 0, none⟩ = some (.int .i64 p.src) := HA5.out.b2.1 0 _ rfl
    have k3 : w5.cell? ⟨W.heap.size + 1 + 1, 2, none⟩ = some (.int .i64 p.sport) := HA5.out.b2.1 2 _ rfl
    have kf := HA5.out.b2.2
    have hS' := HBG.out ⟨W.heap.size + 1 + 1, 0, none⟩ (.int .i64 r.addr) rfl _ hS
    have HS2 := hide hS'
    clear hS'
    refine rO 4 inv fun K hK => ?_
    go_simp
    refine hK.out _ _ (fun _ => HS2.out) ?_
    clear hK K hS inv
    intro inv
    try simp only [Act.put, nrmA, nrmB, nrmC]
    have hS := HS2.out
    revert inv
    refine rP 5 hS ?_
    intro inv
    refine rT 6 inv fun K hK => ?_
    go_simp
    refine hK.out _ _ ?_
    clear hK K inv
    intro inv
    try simp only [Act.put, nrmA, nrmB, nrmC]
    refine rD ?_
    clear inv
    clear hS HS2 HBG
    have h2 : BoxV (((w5.setCell ⟨W.heap.size + 1 + 1, 0, none⟩ (.int .i64 r.addr)).setCell ⟨W.heap.size + 1 + 1, 2, none⟩ (.int .i64 x)).drew) (W.heap.size + 1 + 1) #[.int .i64 r.addr, .int .i64 p.dst, .int .i64 x, .int .i64 p.dport] := ((HA5.out.b2.set 0 (.int .i64 r.addr)).set 2 (.int .i64 x)).below ((Below.refl (W.heap.size + 1 + 1 + 1) _).drew) (Nat.lt_succ_self _)
    have HFR := hide (fun (K : Nat) (vs : Array Value) (h : BoxV w5 K vs) (hK : W.heap.size + 1 + 1 ≠ K) => show BoxV (((w5.setCell ⟨W.heap.size + 1 + 1, 0, none⟩ (.int .i64 r.addr)).setCell ⟨W.heap.size + 1 + 1, 2, none⟩ (.int .i64 x)).drew) K vs from
      ((h.far _ _ (by exact hK)).far _ _ (by exact hK)).below ((Below.refl (K + 1) _).drew) (Nat.lt_succ_self _))
    have hb6 : Below W.heap.size W (((w5.setCell ⟨W.heap.size + 1 + 1, 0, none⟩ (.int .i64 r.addr)).setCell ⟨W.heap.size + 1 + 1, 2, none⟩ (.int .i64 x)).drew) := ((HA5.out.bl.setCell (by show W.heap.size ≤ W.heap.size + 1 + 1; omega) _).setCell (by show W.heap.size ≤ W.heap.size + 1 + 1; omega) _).drew
    have hgl := HA5.out.hg
    have hll := HL5.out
    have HB0 := hide (HFR.out _ _ HA5.out.b0 (by omega))
    have HB1 := hide (HFR.out _ _ HA5.out.b1 (by omega))
    have HB3 := hide (HFR.out _ _ HA5.out.b3 (by omega))
    have HBH := hide (HFR.out _ _ HO5.out (by omega))
    have HBN := hide (HFR.out _ _ HN5.out (by omega))
    have hsz6 : (((w5.setCell ⟨W.heap.size + 1 + 1, 0, none⟩ (.int .i64 r.addr)).setCell ⟨W.heap.size + 1 + 1, 2, none⟩ (.int .i64 x)).drew).heap.size = w5.heap.size := by simp [World.setCell]
    have HL6 := hide (show W.heap.size + 1 + 1 + 1 < H ∧ H < N ∧ N < (((w5.setCell ⟨W.heap.size + 1 + 1, 0, none⟩ (.int .i64 r.addr)).setCell ⟨W.heap.size + 1 + 1, 2, none⟩ (.int .i64 x)).drew).heap.size from by rw [hsz6]; omega)
    clear k1 k3 kf HFR HA5 HO5 HN5 HL5 hgl hll hsz6
    generalize World.drew (World.setCell (World.setCell w5 _ _) _ _) = w6 at *
    have HB6 := hide hb6
    obtain ⟨y0, y1, y2, y3⟩ : w6.cell? ⟨W.heap.size + 1 + 1, 0, none⟩ = some (.int .i64 r.addr) ∧ w6.cell? ⟨W.heap.size + 1 + 1, 1, none⟩ = some (.int .i64 p.dst) ∧ w6.cell? ⟨W.heap.size + 1 + 1, 2, none⟩ = some (.int .i64 x) ∧ w6.cell? ⟨W.heap.size + 1 + 1, 3, none⟩ = some (.int .i64 p.dport) := ⟨h2.1 0 _ rfl, h2.1 1 _ rfl, h2.1 2 _ rfl, h2.1 3 _ rfl⟩
    clear h2 hb6
    go_wp2_with ((with_reducible show wpList _ _ _ (⟨none, .store 110 (.tmp 8) _, _, _, _, _⟩ :: _) _ _); refine wpList_store_mid rfl 110 (.tmp 8) (.tmp 110) rfl (W.heap.size + 1 + 1 + 1) 0 #[.int .i64 1, .int .i64 r.addr, .int .i64 p.dst, .int .i64 x, .int .i64 p.dport, .func (.func 73) #[] #[.pointer (some ⟨H, 0, none⟩), .pointer (some ⟨W.heap.size, 0, none⟩), .pointer (some ⟨W.heap.size + 1, 0, none⟩), .pointer (some ⟨N, 0, none⟩)]] rfl rfl (HB3.out.there (Nat.le_refl _)) info_gone (by simp [Value.oneCell']) ?_)
    clear y0 y1 y2 y3
    have hx7 := HB3.out.all [.int .i64 1, .int .i64 r.addr, .int .i64 p.dst, .int .i64 x, .int .i64 p.dport, .func (.func 73) #[] #[.pointer (some ⟨H, 0, none⟩), .pointer (some ⟨W.heap.size, 0, none⟩), .pointer (some ⟨W.heap.size + 1, 0, none⟩), .pointer (some ⟨N, 0, none⟩)]] rfl
    have hb7 := below_setCells (B := W.heap.size) (N := W.heap.size + 1 + 1 + 1) (by omega) [.int .i64 1, .int .i64 r.addr, .int .i64 p.dst, .int .i64 x, .int .i64 p.dport, .func (.func 73) #[] #[.pointer (some ⟨H, 0, none⟩), .pointer (some ⟨W.heap.size, 0, none⟩), .pointer (some ⟨W.heap.size + 1, 0, none⟩), .pointer (some ⟨N, 0, none⟩)]] 0 _ HB6.out
    have HKN := hide (show ∀ w', Same W.heap.size w6.heap.size (w6.setCells (W.heap.size + 1 + 1 + 1) 0 [.int .i64 1, .int .i64 r.addr, .int .i64 p.dst, .int .i64 x, .int .i64 p.dport, .func (.func 73) #[] #[.pointer (some ⟨H, 0, none⟩), .pointer (some ⟨W.heap.size, 0, none⟩), .pointer (some ⟨W.heap.size + 1, 0, none⟩), .pointer (some ⟨N, 0, none⟩)]]) w' → BoxV w' H #[.int .i64 p.src, .int .i64 p.sport] ∧ BoxV w' W.heap.size #[.pointer (some ⟨g, 0, none⟩)] ∧ BoxV w' (W.heap.size + 1) #[.int .i64 (i : Int), .int .i64 y] ∧ BoxV w' N #[.int .i64 x] from fun w' hb => by
      have h6 := HL6.out
      exact ⟨(HBH.out.apart _ _ (by omega)).sameL hb (by omega) (by omega), (HB0.out.apart _ _ (by omega)).sameL hb (by omega) (by omega), (HB1.out.apart _ _ (by omega)).sameL hb (by omega) (by omega), (HBN.out.apart _ _ (by omega)).sameL hb (by omega) (by omega)⟩)
    have HSZ := hide (show w6.heap.size ≤ (w6.setCells (W.heap.size + 1 + 1 + 1) 0 [.int .i64 1, .int .i64 r.addr, .int .i64 p.dst, .int .i64 x, .int .i64 p.dport, .func (.func 73) #[] #[.pointer (some ⟨H, 0, none⟩), .pointer (some ⟨W.heap.size, 0, none⟩), .pointer (some ⟨W.heap.size + 1, 0, none⟩), .pointer (some ⟨N, 0, none⟩)]]).heap.size from (below_setCells (B := 0) (N := W.heap.size + 1 + 1 + 1) (by omega) [.int .i64 1, .int .i64 r.addr, .int .i64 p.dst, .int .i64 x, .int .i64 p.dport, .func (.func 73) #[] #[.pointer (some ⟨H, 0, none⟩), .pointer (some ⟨W.heap.size, 0, none⟩), .pointer (some ⟨W.heap.size + 1, 0, none⟩), .pointer (some ⟨N, 0, none⟩)]] 0 w6 (Below.refl _ _)).size)
    generalize World.setCells w6 _ _ _ = w7 at *
    obtain ⟨z0, z1, z2, z3, z4, z5⟩ : w7.cell? ⟨W.heap.size + 1 + 1 + 1, 0, none⟩ = some (.int .i64 1) ∧ w7.cell? ⟨W.heap.size + 1 + 1 + 1, 1, none⟩ = some (.int .i64 r.addr) ∧ w7.cell? ⟨W.heap.size + 1 + 1 + 1, 2, none⟩ = some (.int .i64 p.dst) ∧ w7.cell? ⟨W.heap.size + 1 + 1 + 1, 3, none⟩ = some (.int .i64 x) ∧ w7.cell? ⟨W.heap.size + 1 + 1 + 1, 4, none⟩ = some (.int .i64 p.dport) ∧ w7.cell? ⟨W.heap.size + 1 + 1 + 1, 5, none⟩ = some (.func (.func 73) #[] #[.pointer (some ⟨H, 0, none⟩), .pointer (some ⟨W.heap.size, 0, none⟩), .pointer (some ⟨W.heap.size + 1, 0, none⟩), .pointer (some ⟨N, 0, none⟩)]) :=
      ⟨hx7.1 0 _ rfl, hx7.1 1 _ rfl, hx7.1 2 _ rfl, hx7.1 3 _ rfl, hx7.1 4 _ rfl, hx7.1 5 _ rfl⟩
    refine bodyPost_ret (v := .tuple #[goneV 1 ⟨r.addr, p.dst, x, p.dport⟩ (.func (.func 73) #[] #[.pointer (some ⟨H, 0, none⟩), .pointer (some ⟨W.heap.size, 0, none⟩), .pointer (some ⟨W.heap.size + 1, 0, none⟩), .pointer (some ⟨N, 0, none⟩)]), .bool true, .int .i64 0]) (by simp [results, Try.f60, go_sem, z0, z1, z2, z3, z4, z5, goneV]) rfl ⟨_, by rw [HN2.out], ?_, hb7⟩
    rw [HN2.out]
    refine .inr ⟨_, _, rfl, nat1_enters, fun M' k' w' hb hM' hk' => ?_⟩
    obtain ⟨q0, q1, q2, q3⟩ := HKN.out w' (hb.mono HSZ.out)
    exact nat1_walk g _ f o b M' k' H W.heap.size (W.heap.size + 1) N (i : Int) y x (p.src, p.sport) w' hM' hk' q0 q1 q2 q3 HIA.out HXI.out ⟨hp.1, hp.2.2.1⟩
  have hx1 : x < 0 := by omega
  have HN1 := hide (HNF.out.trans (if_neg hx0))
  clear HNF hx0
  by_cases c1 : ch < 0
  · have HN2 := hide (HN1.out.trans (if_pos (.inl c1)))
    clear HN1 HLK
    have k6 : ∀ o', (w4.alloc o').cell? ⟨G, 3, none⟩ = some (.int .u8 r.pool) := fun o' => (HA4O.out o').bd.1 3 _ rfl
    go_wp2_with ((with_reducible show wpList _ _ _ (⟨none, .store 110 (.tmp 8) _, _, _, _, _⟩ :: _) _ _); refine wpList_store_mid rfl 110 (.tmp 8) (.tmp 87) rfl (W.heap.size + 1 + 1 + 1) 0 #[.int .i64 0, .int .i64 0, .int .i64 0, .int .i64 0, .int .i64 0, .nilFunc] rfl rfl ((HA4O.out (.cells #[.int .i64 x] 3)).b3.there (Nat.le_refl _)) info_gone (by simp [Value.oneCell']) ?_)
    have hx7 := (HA4O.out (.cells #[.int .i64 x] 3)).b3.all [.int .i64 0, .int .i64 0, .int .i64 0, .int .i64 0, .int .i64 0, .nilFunc] rfl
    have hb7 := below_setCells (B := W.heap.size) (N := W.heap.size + 1 + 1 + 1) (by omega) [.int .i64 0, .int .i64 0, .int .i64 0, .int .i64 0, .int .i64 0, .nilFunc] 0 _ (HA4O.out (.cells #[.int .i64 x] 3)).bl
    generalize World.setCells _ _ _ _ = w7 at *
    obtain ⟨z0, z1, z2, z3, z4, z5⟩ : w7.cell? ⟨W.heap.size + 1 + 1 + 1, 0, none⟩ = some (.int .i64 0) ∧ w7.cell? ⟨W.heap.size + 1 + 1 + 1, 1, none⟩ = some (.int .i64 0) ∧ w7.cell? ⟨W.heap.size + 1 + 1 + 1, 2, none⟩ = some (.int .i64 0) ∧ w7.cell? ⟨W.heap.size + 1 + 1 + 1, 3, none⟩ = some (.int .i64 0) ∧ w7.cell? ⟨W.heap.size + 1 + 1 + 1, 4, none⟩ = some (.int .i64 0) ∧ w7.cell? ⟨W.heap.size + 1 + 1 + 1, 5, none⟩ = some .nilFunc :=
      ⟨hx7.1 0 _ rfl, hx7.1 1 _ rfl, hx7.1 2 _ rfl, hx7.1 3 _ rfl, hx7.1 4 _ rfl, hx7.1 5 _ rfl⟩
    refine bodyPost_ret (v := .tuple #[goneV 0 ⟨0, 0, 0, 0⟩ .nilFunc, .bool false, .int .i64 1]) (by simp [results, Try.f60, go_sem, z0, z1, z2, z3, z4, z5, goneV]) rfl ⟨.nilFunc, by rw [HN2.out]; rfl, ?_, hb7⟩
    rw [HN2.out]
    exact .inl ⟨rfl, rfl⟩
  by_cases c2 : 8 ≤ ch
  · have HN2 := hide (HN1.out.trans (if_pos (.inr (.inl c2))))
    clear HN1 HLK
    have c3 : 0 ≤ ch := by omega
    clear c1
    have k6 : ∀ o', (w4.alloc o').cell? ⟨G, 3, none⟩ = some (.int .u8 r.pool) := fun o' => (HA4O.out o').bd.1 3 _ rfl
    go_wp2_with ((with_reducible show wpList _ _ _ (⟨none, .store 110 (.tmp 8) _, _, _, _, _⟩ :: _) _ _); refine wpList_store_mid rfl 110 (.tmp 8) (.tmp 87) rfl (W.heap.size + 1 + 1 + 1) 0 #[.int .i64 0, .int .i64 0, .int .i64 0, .int .i64 0, .int .i64 0, .nilFunc] rfl rfl ((HA4O.out (.cells #[.int .i64 x] 3)).b3.there (Nat.le_refl _)) info_gone (by simp [Value.oneCell']) ?_)
    have hx7 := (HA4O.out (.cells #[.int .i64 x] 3)).b3.all [.int .i64 0, .int .i64 0, .int .i64 0, .int .i64 0, .int .i64 0, .nilFunc] rfl
    have hb7 := below_setCells (B := W.heap.size) (N := W.heap.size + 1 + 1 + 1) (by omega) [.int .i64 0, .int .i64 0, .int .i64 0, .int .i64 0, .int .i64 0, .nilFunc] 0 _ (HA4O.out (.cells #[.int .i64 x] 3)).bl
    generalize World.setCells _ _ _ _ = w7 at *
    obtain ⟨z0, z1, z2, z3, z4, z5⟩ : w7.cell? ⟨W.heap.size + 1 + 1 + 1, 0, none⟩ = some (.int .i64 0) ∧ w7.cell? ⟨W.heap.size + 1 + 1 + 1, 1, none⟩ = some (.int .i64 0) ∧ w7.cell? ⟨W.heap.size + 1 + 1 + 1, 2, none⟩ = some (.int .i64 0) ∧ w7.cell? ⟨W.heap.size + 1 + 1 + 1, 3, none⟩ = some (.int .i64 0) ∧ w7.cell? ⟨W.heap.size + 1 + 1 + 1, 4, none⟩ = some (.int .i64 0) ∧ w7.cell? ⟨W.heap.size + 1 + 1 + 1, 5, none⟩ = some .nilFunc :=
      ⟨hx7.1 0 _ rfl, hx7.1 1 _ rfl, hx7.1 2 _ rfl, hx7.1 3 _ rfl, hx7.1 4 _ rfl, hx7.1 5 _ rfl⟩
    refine bodyPost_ret (v := .tuple #[goneV 0 ⟨0, 0, 0, 0⟩ .nilFunc, .bool false, .int .i64 1]) (by simp [results, Try.f60, go_sem, z0, z1, z2, z3, z4, z5, goneV]) rfl ⟨.nilFunc, by rw [HN2.out]; rfl, ?_, hb7⟩
    rw [HN2.out]
    exact .inl ⟨rfl, rfl⟩
  have c3 : 0 ≤ ch := by omega
  have c4 : ch < 8 := by omega
  have hbit := bit_u8_no r.pool ch.toNat hpl
  cases htb : r.pool.testBit ch.toNat
  · have HN2 := hide (HN1.out.trans (if_pos (.inr (.inr htb))))
    clear HN1 HLK c1 c2
    rw [htb] at hbit
    simp only [Bool.not_false] at hbit
    clear htb
    have k6 : ∀ o', (w4.alloc o').cell? ⟨G, 3, none⟩ = some (.int .u8 r.pool) := fun o' => (HA4O.out o').bd.1 3 _ rfl
    go_wp2_with ((with_reducible show wpList _ _ _ (⟨none, .store 110 (.tmp 8) _, _, _, _, _⟩ :: _) _ _); refine wpList_store_mid rfl 110 (.tmp 8) (.tmp 87) rfl (W.heap.size + 1 + 1 + 1) 0 #[.int .i64 0, .int .i64 0, .int .i64 0, .int .i64 0, .int .i64 0, .nilFunc] rfl rfl ((HA4O.out (.cells #[.int .i64 x] 3)).b3.there (Nat.le_refl _)) info_gone (by simp [Value.oneCell']) ?_)
    have hx7 := (HA4O.out (.cells #[.int .i64 x] 3)).b3.all [.int .i64 0, .int .i64 0, .int .i64 0, .int .i64 0, .int .i64 0, .nilFunc] rfl
    have hb7 := below_setCells (B := W.heap.size) (N := W.heap.size + 1 + 1 + 1) (by omega) [.int .i64 0, .int .i64 0, .int .i64 0, .int .i64 0, .int .i64 0, .nilFunc] 0 _ (HA4O.out (.cells #[.int .i64 x] 3)).bl
    generalize World.setCells _ _ _ _ = w7 at *
    obtain ⟨z0, z1, z2, z3, z4, z5⟩ : w7.cell? ⟨W.heap.size + 1 + 1 + 1, 0, none⟩ = some (.int .i64 0) ∧ w7.cell? ⟨W.heap.size + 1 + 1 + 1, 1, none⟩ = some (.int .i64 0) ∧ w7.cell? ⟨W.heap.size + 1 + 1 + 1, 2, none⟩ = some (.int .i64 0) ∧ w7.cell? ⟨W.heap.size + 1 + 1 + 1, 3, none⟩ = some (.int .i64 0) ∧ w7.cell? ⟨W.heap.size + 1 + 1 + 1, 4, none⟩ = some (.int .i64 0) ∧ w7.cell? ⟨W.heap.size + 1 + 1 + 1, 5, none⟩ = some .nilFunc :=
      ⟨hx7.1 0 _ rfl, hx7.1 1 _ rfl, hx7.1 2 _ rfl, hx7.1 3 _ rfl, hx7.1 4 _ rfl, hx7.1 5 _ rfl⟩
    refine bodyPost_ret (v := .tuple #[goneV 0 ⟨0, 0, 0, 0⟩ .nilFunc, .bool false, .int .i64 1]) (by simp [results, Try.f60, go_sem, z0, z1, z2, z3, z4, z5, goneV]) rfl ⟨.nilFunc, by rw [HN2.out]; rfl, ?_, hb7⟩
    rw [HN2.out]
    exact .inl ⟨rfl, rfl⟩
  · have HN3 := hide (HN1.out.trans (if_neg (by rw [htb]; simp; omega)))
    rw [htb] at hbit
    simp only [Bool.not_true] at hbit
    clear HN1 c1 c2 htb
    have k6 : ∀ o', (w4.alloc o').cell? ⟨G, 3, none⟩ = some (.int .u8 r.pool) := fun o' => (HA4O.out o').bd.1 3 _ rfl
    go_wp2
    clear k6 hbit
    have hx5 := BoxV.new w4 #[.int .i64 x] 3
    have ha5 := HA4O.out (.cells #[.int .i64 x] 3)
    have ho5 := HX4.out.below ((Below.refl _ w4).alloc (Nat.le_refl _) (.cells #[.int .i64 x] 3)) HL4.out.2
    have hz5 : (w4.alloc (.cells #[.int .i64 x] 3)).heap.size = w4.heap.size + 1 := by simp
    have hl5 := HL4.out
    clear HA4 HA4O HX4 HL4
    generalize hN : w4.heap.size = N at *
    clear hN
    generalize World.alloc w4 _ = w5 at *
    have HA5 := hide ha5
    have HO5 := hide ho5
    have HN5 := hide hx5
    have HL5 := hide (show G < H ∧ H < N ∧ N < w5.heap.size from ⟨hl5.1, hl5.2, by omega⟩)
    clear ha5 ho5 hx5 hl5 hz5
    refine wp_region_E (fun w' => Below w5.heap.size w5 w') 13 (by kernel_rfl) ((Below.refl _ _).drew) (fun hS => ?_)
    refine rL 0 [13] rfl hS (by intro w hSw; have hx := HA5.out.below hSw; have t0 := hx.b0.1 0 _ rfl; have t1 := hx.b1.1 0 _ rfl; have t3 := hx.mem.c3; have t4 := HLK.out ⟨c3, c4⟩ _ hx.mem; clear hx; go_simp; try with_reducible rfl) ?_
    refine rP 1 hS ?_
    refine rP 2 hS ?_
    refine rL 3 [13] rfl hS (by intro w hSw; have hx := HA5.out.below hSw; have t0 := hx.b0.1 0 _ rfl; have t1 := hx.b1.1 0 _ rfl; have t3 := hx.mem.c3; have t4 := HLK.out ⟨c3, c4⟩ _ hx.mem; clear hx; go_simp; try with_reducible rfl) ?_
    refine rP 4 hS ?_
    refine rL 5 [13] rfl hS (by intro w hSw; have hx := HA5.out.below hSw; have t0 := hx.b0.1 0 _ rfl; have t1 := hx.b1.1 0 _ rfl; have t3 := hx.mem.c3; have t4 := HLK.out ⟨c3, c4⟩ _ hx.mem; clear hx; go_simp; try with_reducible rfl) ?_
    refine rP 6 hS ?_
    refine rP 7 hS ?_
    refine rL 8 [13] rfl hS (by intro w hSw; have hx := HA5.out.below hSw; have t0 := hx.b0.1 0 _ rfl; have t1 := hx.b1.1 0 _ rfl; have t3 := hx.mem.c3; have t4 := HLK.out ⟨c3, c4⟩ _ hx.mem; clear hx; go_simp; try with_reducible rfl) ?_
    refine rP 9 hS ?_
    refine rP 10 hS ?_
    refine rP 11 hS ?_
    intro inv
    refine rO 12 inv fun K hK => ?_
    go_simp
    refine hK.out _ _ (fun _ => (hS.alloc hS.size _)) ?_
    clear hK K hS inv
    intro inv
    try simp only [Act.put, nrmA, nrmB, nrmC]
    have hbz : Below w5.heap.size w5 ((w5.alloc (.cells #[.int .i64 0, .int .i64 0] 120)).drew) := ((Below.refl _ _).alloc (Nat.le_refl _) _).drew
    have HXZ := hide (show BoxV ((w5.alloc (.cells #[.int .i64 0, .int .i64 0] 120)).drew) w5.heap.size #[.int .i64 0, .int .i64 0] from (BoxV.new w5 _ _).below ((Below.refl (w5.heap.size + 1) _).drew) (Nat.lt_succ_self _))
    refine rT 13 inv fun K hK => ?_
    rw [if_pos (by rfl)]
    refine wp_store_mid _ _ _ rfl _ _ #[.int .i64 u, .int .i64 v] rfl rfl (HXZ.out.there (Nat.le_refl _)) info_owner (by first | exact DevV.arr_one _ | simp [Value.oneCell']) ?_
    refine hK.out _ _ ?_
    clear hK K inv
    intro inv
    try simp only [Act.put, nrmA, nrmB, nrmC]
    refine rT 14 inv fun K hK => ?_
    go_simp
    refine hK.out _ _ ?_
    clear hK K inv
    intro inv
    try simp only [Act.put, nrmA, nrmB, nrmC]
    refine rD ?_
    clear inv
    have hb6 := below_setCells (B := w5.heap.size) (N := w5.heap.size) (Nat.le_refl _) [.int .i64 u, .int .i64 v] 0 _ hbz
    have ha6 := HA5.out.below hb6
    have hl5 := HL5.out
    have ho6 := HO5.out.below hb6 (by omega)
    have hn6 := HN5.out.below hb6 (by omega)
    have hs6 := hb6.size
    clear HXZ hbz hb6 HA5 HO5 HN5 HL5
    generalize World.setCells _ _ _ _ = w6 at *
    have HA6 := hide ha6
    have HO6 := hide ho6
    have HN6 := hide hn6
    have HL6 := hide (show G < H ∧ H < N ∧ N < w6.heap.size from ⟨hl5.1, hl5.2.1, by omega⟩)
    clear ha6 ho6 hn6 hl5 hs6
    cases tb
    · have HN2 := hide (HN3.out.trans (if_neg (by simp)))
      clear HN3 HLK
      have k1 : w6.cell? ⟨N, 0, none⟩ = some (.int .i64 x) := HN6.out.1 0 _ rfl
      have kf := HN6.out.2
      go_wp2
      clear k1 kf
      have HA5 := hide (HA6.out.far ⟨N, 0, none⟩ (.int .i64 ch) (by show G < N; have := HL6.out; omega))
      have HO5 := hide (HO6.out.far ⟨N, 0, none⟩ (.int .i64 ch) (by show N ≠ H; have := HL6.out; omega))
      have HN5 := hide (show BoxV (w6.setCell ⟨N, 0, none⟩ (.int .i64 ch)) N #[.int .i64 ch] from HN6.out.set 0 (.int .i64 ch))
      have HL5 := hide (show G < H ∧ H < N ∧ N < (w6.setCell ⟨N, 0, none⟩ (.int .i64 ch)).heap.size from by have := HL6.out; simpa [World.setCell] using this)
      clear HA6 HO6 HN6 HL6
      generalize World.setCell w6 _ _ = w5 at *
      have HBG := hide (fun (a : Addr) (v : Value) (ha : a.block = W.heap.size + 1 + 1) (w' : World) (h : BoxV w' G r.arr ∧ BoxV w' N #[.int .i64 ch]) => show BoxV (w'.setCell a v) G r.arr ∧ BoxV (w'.setCell a v) N #[.int .i64 ch] from
        ⟨h.1.far _ _ (by rw [ha]; have := HA5.out.hg; omega), h.2.far _ _ (by rw [ha]; have := HA5.out.hg; have := HL5.out; omega)⟩)
      refine wp_region_E (fun w' => BoxV w' G r.arr ∧ BoxV w' N #[.int .i64 ch]) 6 (by kernel_rfl) (show BoxV w5.drew G r.arr ∧ BoxV w5.drew N #[.int .i64 ch] from ⟨HA5.out.bd.below ((Below.refl (G + 1) _).drew) (Nat.lt_succ_self _), HN5.out.below ((Below.refl (N + 1) _).drew) (Nat.lt_succ_self _)⟩) (fun hS => ?_)
      refine rP 0 hS ?_
      refine rL 1 [6] rfl hS (by intro w hSw; have t0 : w.cell? ⟨G, 2, none⟩ = some (.int .i64 r.addr) := hSw.1.1 2 _ rfl; have t1 := hSw.2.1 0 _ rfl; go_simp; try with_reducible rfl) ?_
      refine rL 2 [6] rfl hS (by intro w hSw; have t0 : w.cell? ⟨G, 2, none⟩ = some (.int .i64 r.addr) := hSw.1.1 2 _ rfl; have t1 := hSw.2.1 0 _ rfl; go_simp; try with_reducible rfl) ?_
      refine rP 3 hS ?_
      intro inv
      have k1 : w5.cell? ⟨W.heap.size + 1 + 1, 0, none⟩ = some (.int .i64 p.src) := HA5.out.b2.1 0 _ rfl
      have k3 : w5.cell? ⟨W.heap.size + 1 + 1, 2, none⟩ = some (.int .i64 p.sport) := HA5.out.b2.1 2 _ rfl
      have kf := HA5.out.b2.2
      have hS' := HBG.out ⟨W.heap.size + 1 + 1, 0, none⟩ (.int .i64 r.addr) rfl _ hS
      have HS2 := hide hS'
      clear hS'
      refine rO 4 inv fun K hK => ?_
      go_simp
      refine hK.out _ _ (fun _ => HS2.out) ?_
      clear hK K hS inv
      intro inv
      try simp only [Act.put, nrmA, nrmB, nrmC]
      have hS := HS2.out
      revert inv
      refine rP 5 hS ?_
      intro inv
      refine rT 6 inv fun K hK => ?_
      go_simp
      refine hK.out _ _ ?_
      clear hK K inv
      intro inv
      try simp only [Act.put, nrmA, nrmB, nrmC]
      refine rD ?_
      clear inv
      clear hS HS2 HBG
      have h2 : BoxV (((w5.setCell ⟨W.heap.size + 1 + 1, 0, none⟩ (.int .i64 r.addr)).setCell ⟨W.heap.size + 1 + 1, 2, none⟩ (.int .i64 ch)).drew) (W.heap.size + 1 + 1) #[.int .i64 r.addr, .int .i64 p.dst, .int .i64 ch, .int .i64 p.dport] := ((HA5.out.b2.set 0 (.int .i64 r.addr)).set 2 (.int .i64 ch)).below ((Below.refl (W.heap.size + 1 + 1 + 1) _).drew) (Nat.lt_succ_self _)
      have HFR := hide (fun (K : Nat) (vs : Array Value) (h : BoxV w5 K vs) (hK : W.heap.size + 1 + 1 ≠ K) => show BoxV (((w5.setCell ⟨W.heap.size + 1 + 1, 0, none⟩ (.int .i64 r.addr)).setCell ⟨W.heap.size + 1 + 1, 2, none⟩ (.int .i64 ch)).drew) K vs from
        ((h.far _ _ (by exact hK)).far _ _ (by exact hK)).below ((Below.refl (K + 1) _).drew) (Nat.lt_succ_self _))
      have hb6 : Below W.heap.size W (((w5.setCell ⟨W.heap.size + 1 + 1, 0, none⟩ (.int .i64 r.addr)).setCell ⟨W.heap.size + 1 + 1, 2, none⟩ (.int .i64 ch)).drew) := ((HA5.out.bl.setCell (by show W.heap.size ≤ W.heap.size + 1 + 1; omega) _).setCell (by show W.heap.size ≤ W.heap.size + 1 + 1; omega) _).drew
      have hgl := HA5.out.hg
      have hll := HL5.out
      have HB0 := hide (HFR.out _ _ HA5.out.b0 (by omega))
      have HB1 := hide (HFR.out _ _ HA5.out.b1 (by omega))
      have HB3 := hide (HFR.out _ _ HA5.out.b3 (by omega))
      have HBH := hide (HFR.out _ _ HO5.out (by omega))
      have HBN := hide (HFR.out _ _ HN5.out (by omega))
      have hsz6 : (((w5.setCell ⟨W.heap.size + 1 + 1, 0, none⟩ (.int .i64 r.addr)).setCell ⟨W.heap.size + 1 + 1, 2, none⟩ (.int .i64 ch)).drew).heap.size = w5.heap.size := by simp [World.setCell]
      have HL6 := hide (show W.heap.size + 1 + 1 + 1 < H ∧ H < N ∧ N < (((w5.setCell ⟨W.heap.size + 1 + 1, 0, none⟩ (.int .i64 r.addr)).setCell ⟨W.heap.size + 1 + 1, 2, none⟩ (.int .i64 ch)).drew).heap.size from by rw [hsz6]; omega)
      clear k1 k3 kf HFR HA5 HO5 HN5 HL5 hgl hll hsz6
      generalize World.drew (World.setCell (World.setCell w5 _ _) _ _) = w6 at *
      have HB6 := hide hb6
      obtain ⟨y0, y1, y2, y3⟩ : w6.cell? ⟨W.heap.size + 1 + 1, 0, none⟩ = some (.int .i64 r.addr) ∧ w6.cell? ⟨W.heap.size + 1 + 1, 1, none⟩ = some (.int .i64 p.dst) ∧ w6.cell? ⟨W.heap.size + 1 + 1, 2, none⟩ = some (.int .i64 ch) ∧ w6.cell? ⟨W.heap.size + 1 + 1, 3, none⟩ = some (.int .i64 p.dport) := ⟨h2.1 0 _ rfl, h2.1 1 _ rfl, h2.1 2 _ rfl, h2.1 3 _ rfl⟩
      clear h2 hb6
      go_wp2_with ((with_reducible show wpList _ _ _ (⟨none, .store 110 (.tmp 8) _, _, _, _, _⟩ :: _) _ _); refine wpList_store_mid rfl 110 (.tmp 8) (.tmp 110) rfl (W.heap.size + 1 + 1 + 1) 0 #[.int .i64 1, .int .i64 r.addr, .int .i64 p.dst, .int .i64 ch, .int .i64 p.dport, .func (.func 73) #[] #[.pointer (some ⟨H, 0, none⟩), .pointer (some ⟨W.heap.size, 0, none⟩), .pointer (some ⟨W.heap.size + 1, 0, none⟩), .pointer (some ⟨N, 0, none⟩)]] rfl rfl (HB3.out.there (Nat.le_refl _)) info_gone (by simp [Value.oneCell']) ?_)
      clear y0 y1 y2 y3
      have hx7 := HB3.out.all [.int .i64 1, .int .i64 r.addr, .int .i64 p.dst, .int .i64 ch, .int .i64 p.dport, .func (.func 73) #[] #[.pointer (some ⟨H, 0, none⟩), .pointer (some ⟨W.heap.size, 0, none⟩), .pointer (some ⟨W.heap.size + 1, 0, none⟩), .pointer (some ⟨N, 0, none⟩)]] rfl
      have hb7 := below_setCells (B := W.heap.size) (N := W.heap.size + 1 + 1 + 1) (by omega) [.int .i64 1, .int .i64 r.addr, .int .i64 p.dst, .int .i64 ch, .int .i64 p.dport, .func (.func 73) #[] #[.pointer (some ⟨H, 0, none⟩), .pointer (some ⟨W.heap.size, 0, none⟩), .pointer (some ⟨W.heap.size + 1, 0, none⟩), .pointer (some ⟨N, 0, none⟩)]] 0 _ HB6.out
      have HKN := hide (show ∀ w', Same W.heap.size w6.heap.size (w6.setCells (W.heap.size + 1 + 1 + 1) 0 [.int .i64 1, .int .i64 r.addr, .int .i64 p.dst, .int .i64 ch, .int .i64 p.dport, .func (.func 73) #[] #[.pointer (some ⟨H, 0, none⟩), .pointer (some ⟨W.heap.size, 0, none⟩), .pointer (some ⟨W.heap.size + 1, 0, none⟩), .pointer (some ⟨N, 0, none⟩)]]) w' → BoxV w' H #[.int .i64 p.src, .int .i64 p.sport] ∧ BoxV w' W.heap.size #[.pointer (some ⟨g, 0, none⟩)] ∧ BoxV w' (W.heap.size + 1) #[.int .i64 (i : Int), .int .i64 y] ∧ BoxV w' N #[.int .i64 ch] from fun w' hb => by
        have h6 := HL6.out
        exact ⟨(HBH.out.apart _ _ (by omega)).sameL hb (by omega) (by omega), (HB0.out.apart _ _ (by omega)).sameL hb (by omega) (by omega), (HB1.out.apart _ _ (by omega)).sameL hb (by omega) (by omega), (HBN.out.apart _ _ (by omega)).sameL hb (by omega) (by omega)⟩)
      have HSZ := hide (show w6.heap.size ≤ (w6.setCells (W.heap.size + 1 + 1 + 1) 0 [.int .i64 1, .int .i64 r.addr, .int .i64 p.dst, .int .i64 ch, .int .i64 p.dport, .func (.func 73) #[] #[.pointer (some ⟨H, 0, none⟩), .pointer (some ⟨W.heap.size, 0, none⟩), .pointer (some ⟨W.heap.size + 1, 0, none⟩), .pointer (some ⟨N, 0, none⟩)]]).heap.size from (below_setCells (B := 0) (N := W.heap.size + 1 + 1 + 1) (by omega) [.int .i64 1, .int .i64 r.addr, .int .i64 p.dst, .int .i64 ch, .int .i64 p.dport, .func (.func 73) #[] #[.pointer (some ⟨H, 0, none⟩), .pointer (some ⟨W.heap.size, 0, none⟩), .pointer (some ⟨W.heap.size + 1, 0, none⟩), .pointer (some ⟨N, 0, none⟩)]] 0 w6 (Below.refl _ _)).size)
      generalize World.setCells w6 _ _ _ = w7 at *
      obtain ⟨z0, z1, z2, z3, z4, z5⟩ : w7.cell? ⟨W.heap.size + 1 + 1 + 1, 0, none⟩ = some (.int .i64 1) ∧ w7.cell? ⟨W.heap.size + 1 + 1 + 1, 1, none⟩ = some (.int .i64 r.addr) ∧ w7.cell? ⟨W.heap.size + 1 + 1 + 1, 2, none⟩ = some (.int .i64 p.dst) ∧ w7.cell? ⟨W.heap.size + 1 + 1 + 1, 3, none⟩ = some (.int .i64 ch) ∧ w7.cell? ⟨W.heap.size + 1 + 1 + 1, 4, none⟩ = some (.int .i64 p.dport) ∧ w7.cell? ⟨W.heap.size + 1 + 1 + 1, 5, none⟩ = some (.func (.func 73) #[] #[.pointer (some ⟨H, 0, none⟩), .pointer (some ⟨W.heap.size, 0, none⟩), .pointer (some ⟨W.heap.size + 1, 0, none⟩), .pointer (some ⟨N, 0, none⟩)]) :=
        ⟨hx7.1 0 _ rfl, hx7.1 1 _ rfl, hx7.1 2 _ rfl, hx7.1 3 _ rfl, hx7.1 4 _ rfl, hx7.1 5 _ rfl⟩
      refine bodyPost_ret (v := .tuple #[goneV 1 ⟨r.addr, p.dst, ch, p.dport⟩ (.func (.func 73) #[] #[.pointer (some ⟨H, 0, none⟩), .pointer (some ⟨W.heap.size, 0, none⟩), .pointer (some ⟨W.heap.size + 1, 0, none⟩), .pointer (some ⟨N, 0, none⟩)]), .bool true, .int .i64 0]) (by simp [results, Try.f60, go_sem, z0, z1, z2, z3, z4, z5, goneV]) rfl ⟨_, by rw [HN2.out], ?_, hb7⟩
      rw [HN2.out]
      refine .inr ⟨_, _, rfl, nat1_enters, fun M' k' w' hb hM' hk' => ?_⟩
      obtain ⟨q0, q1, q2, q3⟩ := HKN.out w' (hb.mono HSZ.out)
      exact nat1_walk g _ f o b M' k' H W.heap.size (W.heap.size + 1) N (i : Int) y ch (p.src, p.sport) w' hM' hk' q0 q1 q2 q3 HIA.out hch ⟨hp.1, hp.2.2.1⟩
    · have HN2 := hide (HN3.out.trans (if_pos rfl))
      clear HN3 HLK
      go_wp2_with ((with_reducible show wpList _ _ _ (⟨none, .store 110 (.tmp 8) _, _, _, _, _⟩ :: _) _ _); refine wpList_store_mid rfl 110 (.tmp 8) (.tmp 101) rfl (W.heap.size + 1 + 1 + 1) 0 #[.int .i64 0, .int .i64 0, .int .i64 0, .int .i64 0, .int .i64 0, .nilFunc] rfl rfl (HA6.out.b3.there (Nat.le_refl _)) info_gone (by simp [Value.oneCell']) ?_)
      have hx7 := HA6.out.b3.all [.int .i64 0, .int .i64 0, .int .i64 0, .int .i64 0, .int .i64 0, .nilFunc] rfl
      have hb7 := below_setCells (B := W.heap.size) (N := W.heap.size + 1 + 1 + 1) (by omega) [.int .i64 0, .int .i64 0, .int .i64 0, .int .i64 0, .int .i64 0, .nilFunc] 0 _ HA6.out.bl
      generalize World.setCells _ _ _ _ = w7 at *
      obtain ⟨z0, z1, z2, z3, z4, z5⟩ : w7.cell? ⟨W.heap.size + 1 + 1 + 1, 0, none⟩ = some (.int .i64 0) ∧ w7.cell? ⟨W.heap.size + 1 + 1 + 1, 1, none⟩ = some (.int .i64 0) ∧ w7.cell? ⟨W.heap.size + 1 + 1 + 1, 2, none⟩ = some (.int .i64 0) ∧ w7.cell? ⟨W.heap.size + 1 + 1 + 1, 3, none⟩ = some (.int .i64 0) ∧ w7.cell? ⟨W.heap.size + 1 + 1 + 1, 4, none⟩ = some (.int .i64 0) ∧ w7.cell? ⟨W.heap.size + 1 + 1 + 1, 5, none⟩ = some .nilFunc :=
        ⟨hx7.1 0 _ rfl, hx7.1 1 _ rfl, hx7.1 2 _ rfl, hx7.1 3 _ rfl, hx7.1 4 _ rfl, hx7.1 5 _ rfl⟩
      refine bodyPost_ret (v := .tuple #[goneV 0 ⟨0, 0, 0, 0⟩ .nilFunc, .bool false, .int .i64 6]) (by simp [results, Try.f60, go_sem, z0, z1, z2, z3, z4, z5, goneV]) rfl ⟨.nilFunc, by rw [HN2.out]; rfl, ?_, hb7⟩
      rw [HN2.out]
      exact .inl ⟨rfl, rfl⟩
end Go.Proofs.Ytifkacnoiocebaa
