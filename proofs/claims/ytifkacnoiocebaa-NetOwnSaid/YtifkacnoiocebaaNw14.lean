/- A part of the proof: StepOut. -/
import Derived.Test.YtifkacnoiocebaaNw11
import Derived.Test.YtifkacnoiocebaaNw12
import Derived.Test.YtifkacnoiocebaaNw13
set_option linter.unusedVariables false
set_option linter.unusedSimpArgs false
set_option maxRecDepth 100000
set_option maxHeartbeats 8000000
namespace Go.Proofs.Ytifkacnoiocebaa
open Go.Maps Go.RowKit
structure AtOut (W : World) (g : Nat) (n : NetV) (f o b : Nat) (M : MemS) (k : Nat) (i y : Int) (p : P4) (r : DevV) (G : Nat) (w : World) : Prop where
  memW : ∀ w', Below W.heap.size W w' → MemAt w' g n f o b M k
  bl : Below W.heap.size W w
  b1 : BoxV w W.heap.size #[.int .i64 i, .int .i64 y]
  b2 : BoxV w (W.heap.size + 1) #[.int .i64 p.src, .int .i64 p.dst, .int .i64 p.sport, .int .i64 p.dport]
  b3 : BoxV w (W.heap.size + 1 + 1) #[.int .i64 0, .int .i64 0, .int .i64 0, .int .i64 0, .int .i64 0, .nilFunc]
  bd : BoxV w G r.arr
  hg : W.heap.size + 1 + 1 < G
  lt : G < w.heap.size
theorem AtOut.mem {W : World} {g : Nat} {n : NetV} {f o b : Nat} {M : MemS} {k : Nat} {i y : Int} {p : P4} {r : DevV} {G : Nat} {w : World} (h : AtOut W g n f o b M k i y p r G w) : MemAt w g n f o b M k := h.memW w h.bl
theorem AtOut.below {W : World} {g : Nat} {n : NetV} {f o b : Nat} {M : MemS} {k : Nat} {i y : Int} {p : P4} {r : DevV} {G : Nat} {w w' : World} (h : AtOut W g n f o b M k i y p r G w) (hb : Below w.heap.size w w') : AtOut W g n f o b M k i y p r G w' := by
  have h1 := h.lt
  have h2 := h.hg
  have h3 := h.bl.size
  exact ⟨h.memW, h.bl.trans (hb.mono h3), h.b1.below hb (by omega), h.b2.below hb (by omega), h.b3.below hb (by omega), h.bd.below hb h1, h2, by have := hb.size; omega⟩
theorem out_host (g : Nat) (n : NetV) (f o b : Nat) (M : MemS) (k : Nat) (i : Nat) (y : Int) (r : DevV) (p : P4) (ch : Int) (W : World) (hM : MemAt W g n f o b M k) (hr : n.ds[i]? = some r) (hn : n.dn ≤ 10) (hp : p.ok) (hk : r.kind = 1) :
    Calls Try.prog 44 #[.pointer (some ⟨g, 0, none⟩), .agg #[.int .i64 (i : Int), .int .i64 y], .agg #[.int .i64 p.src, .int .i64 p.dst, .int .i64 p.sport, .int .i64 p.dport], .int .i64 ch] W fun e W' =>
          ∃ v, e = .returned (.tuple #[goneV (outS r.dev M i y p ch).1.port (outS r.dev M i y p ch).1.q v, .bool (outS r.dev M i y p ch).2.1, .int .i64 (outS r.dev M i y p ch).2.2]) ∧ KnowAt W.heap.size W' g n f o b v (outS r.dev M i y p ch).1.kn ∧ Below W.heap.size W W'
    := by
  have HS := hide (show outS r.dev M i y p ch = (.zero, false, 0) from by simp [outS, DevV.dev, hk])
  have HK := hide hk
  clear hk
  have HMA := hide (fun (w' : World) (hb : Below W.heap.size W w') => hM.below hb)
  have hin : i < n.dn := by rw [← hM.net.dlen]; exact (List.getElem?_eq_some_iff.1 hr).1
  have HM0 := hide hM
  have HRR := hide hr
  have HNN := hide hn
  clear hM
  obtain ⟨db, od, hdA, hdb, _⟩ := (HMA.out _ (Below.refl _ _)).net.ds.2 (by omega)
  have HDA := hide hdA
  obtain ⟨dn, hdn⟩ : ∃ dn, n.dn = dn := ⟨_, rfl⟩
  have HDN := hide hdn
  have i1 : (0 : Int) ≤ (i : Int) := by omega
  have i2 : (i : Int) < (dn : Int) := by omega
  have i3 : (dn : Int) ≤ 10 := by omega
  clear hr hdb hdA hdn hin hn
  go_enter Try.func44, Try.ntmps44
  go_wp2
  generalize hG : World.alloc (World.alloc (World.alloc W _) _) _ = W1
  have HW1 := hide (show W1.heap.size = W.heap.size + 3 from by rw [← hG]; simp)
  have HQ := hide (fun (B : Nat) (w' : World) (hb : Below B W1 w') => boxesV (B := B) [(#[.int .i64 (i : Int), .int .i64 y], 45), (#[.int .i64 p.src, .int .i64 p.dst, .int .i64 p.sport, .int .i64 p.dport], 38), (#[.int .i64 0, .int .i64 0, .int .i64 0, .int .i64 0, .int .i64 0, .nilFunc], 110)] W (W' := w') (by rw [← hG] at hb; exact hb))
  clear hG
  have HBB := hide (fun (w' : World) (hb : Below W1.heap.size W1 w') => show Below W.heap.size W w' from (HQ.out _ w' hb).2 (by rw [HW1.out]; omega))
  have HF := hide (fun (w' : World) (hb : Below W1.heap.size W1 w') => show
      (w'.cell? ⟨W.heap.size, 0, none⟩ = some (.int .i64 (i : Int)) ∧
      w'.cell? ⟨g, 0, none⟩ = some (.slice (some ⟨db, od, none⟩) dn n.dc) ∧
      (w'.cell? ⟨db, od + i * 7, none⟩ = some (.string r.name) ∧ w'.cell? ⟨db, od + i * 7 + 1, none⟩ = some (.int .i64 r.kind) ∧ w'.cell? ⟨db, od + i * 7 + 2, none⟩ = some (.int .i64 r.addr) ∧ w'.cell? ⟨db, od + i * 7 + 3, none⟩ = some (.int .u8 r.pool) ∧
      w'.cell? ⟨db, od + i * 7 + 4, none⟩ = some (.slice r.bA r.bn r.bc) ∧ w'.cell? ⟨db, od + i * 7 + 5, none⟩ = some (.slice r.rA r.rn r.rc) ∧ w'.cell? ⟨db, od + i * 7 + 6, none⟩ = some (.slice r.tA r.tn r.tc))) from by
    have x1 := (HQ.out _ w' hb).1 0 _ _ rfl (by rw [HW1.out]; omega)
    have hm := HMA.out _ (HBB.out w' hb)
    have hds := hm.net.ds
    rw [HDA.out] at hds
    obtain ⟨_, q0, q1, q2, q3, q4, q5, q6⟩ := dev_get hds HRR.out
    have hc0 := hm.c0
    rw [HDA.out, HDN.out] at hc0
    exact ⟨x1.1 0 _ rfl, hc0, q0, q1, q2, q3, q4, q5, q6⟩)
  refine wp_region_E (fun w' => Below W1.heap.size W1 w') 10 (by kernel_rfl) ((Below.refl _ _).drew) (fun hS => ?_)
  refine rP 0 hS ?_
  refine rP 1 hS ?_
  refine rP 2 hS ?_
  refine rP 3 hS ?_
  refine rL 4 [10] rfl hS (by intro w hSw; obtain ⟨s1, s2, ⟨s3, s4, s5, s6, s7, s8, s9⟩⟩ := HF.out _ hSw; go_simp; try with_reducible rfl) ?_
  refine rP 5 hS ?_
  refine rL 6 [10] rfl hS (by intro w hSw; obtain ⟨s1, s2, ⟨s3, s4, s5, s6, s7, s8, s9⟩⟩ := HF.out _ hSw; go_simp; try with_reducible rfl) ?_
  refine rP 7 hS ?_
  refine rL 8 [10] rfl hS (by intro w hSw; obtain ⟨s1, s2, ⟨s3, s4, s5, s6, s7, s8, s9⟩⟩ := HF.out _ hSw; go_simp; try with_reducible rfl) ?_
  intro inv
  refine rO 9 inv fun K hK => ?_
  go_simp
  refine hK.out _ _ (fun _ => (hS.alloc hS.size _)) ?_
  clear hK K hS inv
  intro inv
  try simp only [Act.put, nrmA, nrmB, nrmC]
  have hxz : BoxV ((W1.alloc (.cells #[.string ⟨#[]⟩, .int .i64 0, .int .i64 0, .int .u8 0, .slice none 0 0, .slice none 0 0, .slice none 0 0] 61)).drew) W1.heap.size #[.string ⟨#[]⟩, .int .i64 0, .int .i64 0, .int .u8 0, .slice none 0 0, .slice none 0 0, .slice none 0 0] := (BoxV.new W1 _ _).below ((Below.refl (W1.heap.size + 1) _).drew) (Nat.lt_succ_self _)
  have hbz : Below W1.heap.size W1 ((W1.alloc (.cells #[.string ⟨#[]⟩, .int .i64 0, .int .i64 0, .int .u8 0, .slice none 0 0, .slice none 0 0, .slice none 0 0] 61)).drew) := ((Below.refl _ _).alloc (Nat.le_refl _) _).drew
  have HXZ := hide hxz
  clear hxz
  refine rT 10 inv fun K hK => ?_
  rw [if_pos (by rfl)]
  refine wp_store_mid _ _ _ rfl _ _ r.arr rfl rfl (HXZ.out.there (Nat.le_refl _)) info_device (by first | exact DevV.arr_one _ | simp [Value.oneCell']) ?_
  refine hK.out _ _ ?_
  clear hK K inv
  intro inv
  try simp only [Act.put, nrmA, nrmB, nrmC]
  refine rD ?_
  clear inv
  have hA : AtOut W g n f o b M k i y p r W1.heap.size (((W1.alloc (.cells #[.string ⟨#[]⟩, .int .i64 0, .int .i64 0, .int .u8 0, .slice none 0 0, .slice none 0 0, .slice none 0 0] 61)).drew).setCells W1.heap.size 0 r.arr.toList) := by
    have hb2 := below_setCells (B := W1.heap.size) (Nat.le_refl _) r.arr.toList 0 _ hbz
    have h1 := HW1.out
    have hd := HXZ.out.all r.arr.toList rfl
    rw [Array.toArray_toList] at hd
    have hlt : W1.heap.size < (((W1.alloc (.cells #[.string ⟨#[]⟩, .int .i64 0, .int .i64 0, .int .u8 0, .slice none 0 0, .slice none 0 0, .slice none 0 0] 61)).drew).setCells W1.heap.size 0 r.arr.toList).heap.size := by
      have := (below_setCells (B := W1.heap.size) (Nat.le_refl _) r.arr.toList 0 ((W1.alloc (.cells #[.string ⟨#[]⟩, .int .i64 0, .int .i64 0, .int .u8 0, .slice none 0 0, .slice none 0 0, .slice none 0 0] 61)).drew) (Below.refl _ _)).size
      have e : ((W1.alloc (.cells #[.string ⟨#[]⟩, .int .i64 0, .int .i64 0, .int .u8 0, .slice none 0 0, .slice none 0 0, .slice none 0 0] 61)).drew).heap.size = W1.heap.size + 1 := by simp
      omega
    exact ⟨HMA.out, HBB.out _ hb2, (HQ.out _ _ hb2).1 0 _ _ rfl (by omega), (HQ.out _ _ hb2).1 1 _ _ rfl (by omega), (HQ.out _ _ hb2).1 2 _ _ rfl (by omega), hd, by omega, hlt⟩
  obtain ⟨G, hG⟩ : ∃ G, W1.heap.size = G := ⟨_, rfl⟩
  rw [hG] at hA ⊢
  clear hG hbz HXZ HF HQ HBB HMA HW1 HDA HDN
  generalize World.setCells _ _ _ _ = w2 at *
  have HA := hide hA
  clear hA i1 i2 i3
  have k1 : w2.cell? ⟨G, 1, none⟩ = some (.int .i64 1) := by rw [← HK.out]; exact HA.out.bd.1 1 _ rfl
  go_wp2_with ((with_reducible show wpList _ _ _ (⟨none, .store 110 (.tmp 8) _, _, _, _, _⟩ :: _) _ _); refine wpList_store_mid rfl 110 (.tmp 8) (.tmp 84) rfl (W.heap.size + 1 + 1) 0 #[.int .i64 0, .int .i64 0, .int .i64 0, .int .i64 0, .int .i64 0, .nilFunc] rfl rfl (HA.out.b3.there (Nat.le_refl _)) info_gone (by simp [Value.oneCell']) ?_)
  have hx7 := HA.out.b3.all [.int .i64 0, .int .i64 0, .int .i64 0, .int .i64 0, .int .i64 0, .nilFunc] rfl
  have hb7 := below_setCells (B := W.heap.size) (N := W.heap.size + 1 + 1) (by omega) [.int .i64 0, .int .i64 0, .int .i64 0, .int .i64 0, .int .i64 0, .nilFunc] 0 _ HA.out.bl
  generalize World.setCells _ _ _ _ = w7 at *
  obtain ⟨z0, z1, z2, z3, z4, z5⟩ : w7.cell? ⟨W.heap.size + 1 + 1, 0, none⟩ = some (.int .i64 0) ∧ w7.cell? ⟨W.heap.size + 1 + 1, 1, none⟩ = some (.int .i64 0) ∧ w7.cell? ⟨W.heap.size + 1 + 1, 2, none⟩ = some (.int .i64 0) ∧ w7.cell? ⟨W.heap.size + 1 + 1, 3, none⟩ = some (.int .i64 0) ∧ w7.cell? ⟨W.heap.size + 1 + 1, 4, none⟩ = some (.int .i64 0) ∧ w7.cell? ⟨W.heap.size + 1 + 1, 5, none⟩ = some (.nilFunc) :=
    ⟨hx7.1 0 _ rfl, hx7.1 1 _ rfl, hx7.1 2 _ rfl, hx7.1 3 _ rfl, hx7.1 4 _ rfl, hx7.1 5 _ rfl⟩
  refine bodyPost_ret (v := .tuple #[goneV 0 ⟨0, 0, 0, 0⟩ (.nilFunc), .bool false, .int .i64 0]) (by simp [results, Try.f44, go_sem, z0, z1, z2, z3, z4, z5, goneV]) rfl ⟨.nilFunc, by rw [HS.out]; all_goals rfl, ?_, hb7⟩
  rw [HS.out]
  exact .inl ⟨rfl, rfl⟩
theorem natF_in_kn (r : Dev) (M : MemS) (i : Int) (p : P4) (ch : Int) : (natH r M i 1 p ch).1.kn = .nothing := by
  unfold natH
  rw [if_pos rfl]
  split
  · rfl
  · split <;> rfl
theorem nat_any (g : Nat) (n : NetV) (f o b : Nat) (M : MemS) (k : Nat) (i : Nat) (y : Int) (r : DevV) (p : P4) (ch : Int) (W : World) (hM : MemAt W g n f o b M k) (hr : n.ds[i]? = some r) (hn : n.dn ≤ 10) (hp : p.ok) (hch : i64ok ch) :
    Calls Try.prog 60 #[.pointer (some ⟨g, 0, none⟩), .agg #[.int .i64 (i : Int), .int .i64 y], .agg #[.int .i64 p.src, .int .i64 p.dst, .int .i64 p.sport, .int .i64 p.dport], .int .i64 ch] W fun e W' =>
      ∃ v, e = .returned (.tuple #[goneV (natH r.dev M i y p ch).1.port (natH r.dev M i y p ch).1.q v, .bool (natH r.dev M i y p ch).2.1, .int .i64 (natH r.dev M i y p ch).2.2]) ∧ KnowAt W.heap.size W' g n f o b v (natH r.dev M i y p ch).1.kn ∧ Below W.heap.size W W' := by
  by_cases e : y = 1
  · subst e
    exact (nat_in g n f o b M k i r p ch W hM hr hn hp).mono fun e w' ⟨h1, h2⟩ => ⟨.nilFunc, h1, .inl ⟨natF_in_kn _ _ _ _ _, rfl⟩, h2⟩
  · exact nat_out g n f o b M k i y r p ch W hM hr hn hp e hch
theorem fire_any (g : Nat) (n : NetV) (f o b : Nat) (M : MemS) (k : Nat) (i : Nat) (y : Int) (r : DevV) (p : P4) (W : World) (hM : MemAt W g n f o b M k) (hr : n.ds[i]? = some r) (hn : n.dn ≤ 10) (hp : p.ok) :
    Calls Try.prog 59 #[.pointer (some ⟨g, 0, none⟩), .agg #[.int .i64 (i : Int), .int .i64 y], .agg #[.int .i64 p.src, .int .i64 p.dst, .int .i64 p.sport, .int .i64 p.dport]] W fun e W' =>
      ∃ v, e = .returned (.tuple #[goneV (fireF r.dev M i y p).1.port (fireF r.dev M i y p).1.q v, .bool (fireF r.dev M i y p).2]) ∧ KnowAt W.heap.size W' g n f o b v (fireF r.dev M i y p).1.kn ∧ Below W.heap.size W W' := by
  have hin : i < n.dn := by rw [← hM.net.dlen]; exact (List.getElem?_eq_some_iff.1 hr).1
  by_cases e : y = 0
  · subst e
    have hc := (hM.net.dok r (List.mem_of_getElem? hr)).cr
    exact (fire_in g n f o b M k i r p W hM hr hn hp (by have := hc.2; have := hc.1; unfold maxLen at *; omega)).mono fun e w' h => h
  · unfold fireF
    rw [if_neg e]
    exact (fire_out g n f o b M k i y p W hM (by unfold i64ok; omega) e hp).mono fun e w' ⟨h1, h2⟩ => ⟨.nilFunc, h1, .inl ⟨rfl, rfl⟩, h2⟩
theorem bal_any (g : Nat) (n : NetV) (f o b : Nat) (M : MemS) (k : Nat) (i : Nat) (y : Int) (r : DevV) (p : P4) (ch : Int) (W : World) (hM : MemAt W g n f o b M k) (hr : n.ds[i]? = some r) (hn : n.dn ≤ 10) (hp : p.ok) (hch : i64ok ch) :
    Calls Try.prog 61 #[.pointer (some ⟨g, 0, none⟩), .agg #[.int .i64 (i : Int), .int .i64 y], .agg #[.int .i64 p.src, .int .i64 p.dst, .int .i64 p.sport, .int .i64 p.dport], .int .i64 ch] W fun e W' =>
      ∃ v, e = .returned (.tuple #[goneV (balF r.dev M i y p ch).1.port (balF r.dev M i y p ch).1.q v, .int .i64 (balF r.dev M i y p ch).2]) ∧ KnowAt W.heap.size W' g n f o b v (balF r.dev M i y p ch).1.kn ∧ Below W.heap.size W W' := by
  by_cases e : y = 1
  · subst e
    exact (bal_in g n f o b M k i r p ch W hM hr hn hp).mono fun e w' ⟨h1, h2⟩ => ⟨.nilFunc, h1, .inl ⟨rfl, rfl⟩, h2⟩
  · exact bal_out g n f o b M k i y r p ch W hM hr hn hp e hch
theorem out_nat (g : Nat) (n : NetV) (f o b : Nat) (M : MemS) (k : Nat) (i : Nat) (y : Int) (r : DevV) (p : P4) (ch : Int) (W : World) (hM : MemAt W g n f o b M k) (hr : n.ds[i]? = some r) (hn : n.dn ≤ 10) (hp : p.ok) (hch : i64ok ch) (hk : r.kind = 4) :
    Calls Try.prog 44 #[.pointer (some ⟨g, 0, none⟩), .agg #[.int .i64 (i : Int), .int .i64 y], .agg #[.int .i64 p.src, .int .i64 p.dst, .int .i64 p.sport, .int .i64 p.dport], .int .i64 ch] W fun e W' =>
          ∃ v, e = .returned (.tuple #[goneV (outS r.dev M i y p ch).1.port (outS r.dev M i y p ch).1.q v, .bool (outS r.dev M i y p ch).2.1, .int .i64 (outS r.dev M i y p ch).2.2]) ∧ KnowAt W.heap.size W' g n f o b v (outS r.dev M i y p ch).1.kn ∧ Below W.heap.size W W'
    := by
  obtain ⟨S, hS⟩ : ∃ S, natH r.dev M i y p ch = S := ⟨_, rfl⟩
  have HS := hide (show outS r.dev M i y p ch = S from by rw [← hS]; simp [outS, DevV.dev, hk])
  have HK := hide hk
  have HCA := hide (fun (w' : World) (hm : MemAt w' g n f o b M k) => nat_any g n f o b M k i y r p ch w' hm hr hn hp hch)
  rw [hS] at HCA
  obtain ⟨⟨pt, ⟨qa, qb, qc, qd⟩, kn⟩, ok, er⟩ := S
  clear hk hS
  simp only at HCA
  have HMA := hide (fun (w' : World) (hb : Below W.heap.size W w') => hM.below hb)
  have hin : i < n.dn := by rw [← hM.net.dlen]; exact (List.getElem?_eq_some_iff.1 hr).1
  have HM0 := hide hM
  have HRR := hide hr
  have HNN := hide hn
  clear hM
  obtain ⟨db, od, hdA, hdb, _⟩ := (HMA.out _ (Below.refl _ _)).net.ds.2 (by omega)
  have HDA := hide hdA
  obtain ⟨dn, hdn⟩ : ∃ dn, n.dn = dn := ⟨_, rfl⟩
  have HDN := hide hdn
  have i1 : (0 : Int) ≤ (i : Int) := by omega
  have i2 : (i : Int) < (dn : Int) := by omega
  have i3 : (dn : Int) ≤ 10 := by omega
  clear hr hdb hdA hdn hin hn
  go_enter Try.func44, Try.ntmps44
  go_wp2
  generalize hG : World.alloc (World.alloc (World.alloc W _) _) _ = W1
  have HW1 := hide (show W1.heap.size = W.heap.size + 3 from by rw [← hG]; simp)
  have HQ := hide (fun (B : Nat) (w' : World) (hb : Below B W1 w') => boxesV (B := B) [(#[.int .i64 (i : Int), .int .i64 y], 45), (#[.int .i64 p.src, .int .i64 p.dst, .int .i64 p.sport, .int .i64 p.dport], 38), (#[.int .i64 0, .int .i64 0, .int .i64 0, .int .i64 0, .int .i64 0, .nilFunc], 110)] W (W' := w') (by rw [← hG] at hb; exact hb))
  clear hG
  have HBB := hide (fun (w' : World) (hb : Below W1.heap.size W1 w') => show Below W.heap.size W w' from (HQ.out _ w' hb).2 (by rw [HW1.out]; omega))
  have HF := hide (fun (w' : World) (hb : Below W1.heap.size W1 w') => show
      (w'.cell? ⟨W.heap.size, 0, none⟩ = some (.int .i64 (i : Int)) ∧
      w'.cell? ⟨g, 0, none⟩ = some (.slice (some ⟨db, od, none⟩) dn n.dc) ∧
      (w'.cell? ⟨db, od + i * 7, none⟩ = some (.string r.name) ∧ w'.cell? ⟨db, od + i * 7 + 1, none⟩ = some (.int .i64 r.kind) ∧ w'.cell? ⟨db, od + i * 7 + 2, none⟩ = some (.int .i64 r.addr) ∧ w'.cell? ⟨db, od + i * 7 + 3, none⟩ = some (.int .u8 r.pool) ∧
      w'.cell? ⟨db, od + i * 7 + 4, none⟩ = some (.slice r.bA r.bn r.bc) ∧ w'.cell? ⟨db, od + i * 7 + 5, none⟩ = some (.slice r.rA r.rn r.rc) ∧ w'.cell? ⟨db, od + i * 7 + 6, none⟩ = some (.slice r.tA r.tn r.tc))) from by
    have x1 := (HQ.out _ w' hb).1 0 _ _ rfl (by rw [HW1.out]; omega)
    have hm := HMA.out _ (HBB.out w' hb)
    have hds := hm.net.ds
    rw [HDA.out] at hds
    obtain ⟨_, q0, q1, q2, q3, q4, q5, q6⟩ := dev_get hds HRR.out
    have hc0 := hm.c0
    rw [HDA.out, HDN.out] at hc0
    exact ⟨x1.1 0 _ rfl, hc0, q0, q1, q2, q3, q4, q5, q6⟩)
  refine wp_region_E (fun w' => Below W1.heap.size W1 w') 10 (by kernel_rfl) ((Below.refl _ _).drew) (fun hS => ?_)
  refine rP 0 hS ?_
  refine rP 1 hS ?_
  refine rP 2 hS ?_
  refine rP 3 hS ?_
  refine rL 4 [10] rfl hS (by intro w hSw; obtain ⟨s1, s2, ⟨s3, s4, s5, s6, s7, s8, s9⟩⟩ := HF.out _ hSw; go_simp; try with_reducible rfl) ?_
  refine rP 5 hS ?_
  refine rL 6 [10] rfl hS (by intro w hSw; obtain ⟨s1, s2, ⟨s3, s4, s5, s6, s7, s8, s9⟩⟩ := HF.out _ hSw; go_simp; try with_reducible rfl) ?_
  refine rP 7 hS ?_
  refine rL 8 [10] rfl hS (by intro w hSw; obtain ⟨s1, s2, ⟨s3, s4, s5, s6, s7, s8, s9⟩⟩ := HF.out _ hSw; go_simp; try with_reducible rfl) ?_
  intro inv
  refine rO 9 inv fun K hK => ?_
  go_simp
  refine hK.out _ _ (fun _ => (hS.alloc hS.size _)) ?_
  clear hK K hS inv
  intro inv
  try simp only [Act.put, nrmA, nrmB, nrmC]
  have hxz : BoxV ((W1.alloc (.cells #[.string ⟨#[]⟩, .int .i64 0, .int .i64 0, .int .u8 0, .slice none 0 0, .slice none 0 0, .slice none 0 0] 61)).drew) W1.heap.size #[.string ⟨#[]⟩, .int .i64 0, .int .i64 0, .int .u8 0, .slice none 0 0, .slice none 0 0, .slice none 0 0] := (BoxV.new W1 _ _).below ((Below.refl (W1.heap.size + 1) _).drew) (Nat.lt_succ_self _)
  have hbz : Below W1.heap.size W1 ((W1.alloc (.cells #[.string ⟨#[]⟩, .int .i64 0, .int .i64 0, .int .u8 0, .slice none 0 0, .slice none 0 0, .slice none 0 0] 61)).drew) := ((Below.refl _ _).alloc (Nat.le_refl _) _).drew
  have HXZ := hide hxz
  clear hxz
  refine rT 10 inv fun K hK => ?_
  rw [if_pos (by rfl)]
  refine wp_store_mid _ _ _ rfl _ _ r.arr rfl rfl (HXZ.out.there (Nat.le_refl _)) info_device (by first | exact DevV.arr_one _ | simp [Value.oneCell']) ?_
  refine hK.out _ _ ?_
  clear hK K inv
  intro inv
  try simp only [Act.put, nrmA, nrmB, nrmC]
  refine rD ?_
  clear inv
  have hA : AtOut W g n f o b M k i y p r W1.heap.size (((W1.alloc (.cells #[.string ⟨#[]⟩, .int .i64 0, .int .i64 0, .int .u8 0, .slice none 0 0, .slice none 0 0, .slice none 0 0] 61)).drew).setCells W1.heap.size 0 r.arr.toList) := by
    have hb2 := below_setCells (B := W1.heap.size) (Nat.le_refl _) r.arr.toList 0 _ hbz
    have h1 := HW1.out
    have hd := HXZ.out.all r.arr.toList rfl
    rw [Array.toArray_toList] at hd
    have hlt : W1.heap.size < (((W1.alloc (.cells #[.string ⟨#[]⟩, .int .i64 0, .int .i64 0, .int .u8 0, .slice none 0 0, .slice none 0 0, .slice none 0 0] 61)).drew).setCells W1.heap.size 0 r.arr.toList).heap.size := by
      have := (below_setCells (B := W1.heap.size) (Nat.le_refl _) r.arr.toList 0 ((W1.alloc (.cells #[.string ⟨#[]⟩, .int .i64 0, .int .i64 0, .int .u8 0, .slice none 0 0, .slice none 0 0, .slice none 0 0] 61)).drew) (Below.refl _ _)).size
      have e : ((W1.alloc (.cells #[.string ⟨#[]⟩, .int .i64 0, .int .i64 0, .int .u8 0, .slice none 0 0, .slice none 0 0, .slice none 0 0] 61)).drew).heap.size = W1.heap.size + 1 := by simp
      omega
    exact ⟨HMA.out, HBB.out _ hb2, (HQ.out _ _ hb2).1 0 _ _ rfl (by omega), (HQ.out _ _ hb2).1 1 _ _ rfl (by omega), (HQ.out _ _ hb2).1 2 _ _ rfl (by omega), hd, by omega, hlt⟩
  obtain ⟨G, hG⟩ : ∃ G, W1.heap.size = G := ⟨_, rfl⟩
  rw [hG] at hA ⊢
  clear hG hbz HXZ HF HQ HBB HMA HW1 HDA HDN
  generalize World.setCells _ _ _ _ = w2 at *
  have HA := hide hA
  clear hA i1 i2 i3
  have k1 : w2.cell? ⟨G, 1, none⟩ = some (.int .i64 4) := by rw [← HK.out]; exact HA.out.bd.1 1 _ rfl
  obtain ⟨j0, j1⟩ : w2.cell? ⟨W.heap.size, 0, none⟩ = some (.int .i64 (i : Int)) ∧ w2.cell? ⟨W.heap.size, 1, none⟩ = some (.int .i64 y) := ⟨HA.out.b1.1 0 _ rfl, HA.out.b1.1 1 _ rfl⟩
  obtain ⟨y0, y1, y2, y3⟩ : w2.cell? ⟨W.heap.size + 1, 0, none⟩ = some (.int .i64 p.src) ∧ w2.cell? ⟨W.heap.size + 1, 1, none⟩ = some (.int .i64 p.dst) ∧ w2.cell? ⟨W.heap.size + 1, 2, none⟩ = some (.int .i64 p.sport) ∧ w2.cell? ⟨W.heap.size + 1, 3, none⟩ = some (.int .i64 p.dport) := ⟨HA.out.b2.1 0 _ rfl, HA.out.b2.1 1 _ rfl, HA.out.b2.1 2 _ rfl, HA.out.b2.1 3 _ rfl⟩
  go_wp2_with fail
  refine (HCA.out _ HA.out.mem).mono ?_
  clear HCA j0 j1 y0 y1 y2 y3 k1
  rintro e w3 ⟨v, rfl, hkn, hb⟩
  have HA3 := hide (HA.out.below hb)
  have HKN := hide hkn
  have hv1 := hkn.one
  have hl : W.heap.size + 1 + 1 < w2.heap.size := Nat.lt_trans HA.out.hg HA.out.lt
  clear HA hb hkn
  simp only [goneV]
  go_wp2_with ((with_reducible show wpList _ _ _ (⟨none, .store 110 (.tmp 8) _, _, _, _, _⟩ :: _) _ _); refine wpList_store_mid rfl 110 (.tmp 8) (.tmp 67) rfl (W.heap.size + 1 + 1) 0 #[.int .i64 pt, .int .i64 qa, .int .i64 qb, .int .i64 qc, .int .i64 qd, v] rfl rfl (HA3.out.b3.there (Nat.le_refl _)) info_gone (one6 hv1) ?_)
  have hx7 := (HA3.out).b3.all [.int .i64 pt, .int .i64 qa, .int .i64 qb, .int .i64 qc, .int .i64 qd, v] rfl
  have hb7 := below_setCells (B := W.heap.size) (N := W.heap.size + 1 + 1) (by omega) [.int .i64 pt, .int .i64 qa, .int .i64 qb, .int .i64 qc, .int .i64 qd, v] 0 _ (HA3.out).bl
  have hkn7 := (HKN.out).later (same_setCells (N := W.heap.size + 1 + 1) hl [.int .i64 pt, .int .i64 qa, .int .i64 qb, .int .i64 qc, .int .i64 qd, v] _) (L' := W.heap.size) (by omega)
  generalize World.setCells _ _ _ _ = w7 at *
  obtain ⟨z0, z1, z2, z3, z4, z5⟩ : w7.cell? ⟨W.heap.size + 1 + 1, 0, none⟩ = some (.int .i64 pt) ∧ w7.cell? ⟨W.heap.size + 1 + 1, 1, none⟩ = some (.int .i64 qa) ∧ w7.cell? ⟨W.heap.size + 1 + 1, 2, none⟩ = some (.int .i64 qb) ∧ w7.cell? ⟨W.heap.size + 1 + 1, 3, none⟩ = some (.int .i64 qc) ∧ w7.cell? ⟨W.heap.size + 1 + 1, 4, none⟩ = some (.int .i64 qd) ∧ w7.cell? ⟨W.heap.size + 1 + 1, 5, none⟩ = some (v) :=
    ⟨hx7.1 0 _ rfl, hx7.1 1 _ rfl, hx7.1 2 _ rfl, hx7.1 3 _ rfl, hx7.1 4 _ rfl, hx7.1 5 _ rfl⟩
  refine bodyPost_ret (v := .tuple #[goneV pt ⟨qa, qb, qc, qd⟩ (v), .bool ok, .int .i64 er]) (by simp [results, Try.f44, go_sem, z0, z1, z2, z3, z4, z5, goneV]) rfl ⟨v, by rw [HS.out]; all_goals rfl, ?_, hb7⟩
  rw [HS.out]
  exact hkn7
theorem put_box (w : World) (z cs : List Value) (hl : cs.length = z.length) (t : TypeId) : Below w.heap.size w ((w.alloc (.cells z.toArray t)).setCells w.heap.size 0 cs) ∧ BoxV ((w.alloc (.cells z.toArray t)).setCells w.heap.size 0 cs) w.heap.size cs.toArray :=
  ⟨below_setCells (Nat.le_refl _) cs 0 _ ((Below.refl _ _).alloc (Nat.le_refl _) _), (BoxV.new w z.toArray t).all cs (by simpa using hl)⟩
theorem out_fire (g : Nat) (n : NetV) (f o b : Nat) (M : MemS) (k : Nat) (i : Nat) (y : Int) (r : DevV) (p : P4) (ch : Int) (W : World) (hM : MemAt W g n f o b M k) (hr : n.ds[i]? = some r) (hn : n.dn ≤ 10) (hp : p.ok) (hk : r.kind = 3) :
    Calls Try.prog 44 #[.pointer (some ⟨g, 0, none⟩), .agg #[.int .i64 (i : Int), .int .i64 y], .agg #[.int .i64 p.src, .int .i64 p.dst, .int .i64 p.sport, .int .i64 p.dport], .int .i64 ch] W fun e W' =>
          ∃ v, e = .returned (.tuple #[goneV (outS r.dev M i y p ch).1.port (outS r.dev M i y p ch).1.q v, .bool (outS r.dev M i y p ch).2.1, .int .i64 (outS r.dev M i y p ch).2.2]) ∧ KnowAt W.heap.size W' g n f o b v (outS r.dev M i y p ch).1.kn ∧ Below W.heap.size W W'
    := by
  obtain ⟨S, hS⟩ : ∃ S, fireF r.dev M i y p = S := ⟨_, rfl⟩
  have HS := hide (show outS r.dev M i y p ch = (S.1, S.2, 0) from by rw [← hS]; simp [outS, DevV.dev, hk])
  have HK := hide hk
  have HCA := hide (fun (w' : World) (hm : MemAt w' g n f o b M k) => fire_any g n f o b M k i y r p w' hm hr hn hp)
  rw [hS] at HCA
  obtain ⟨⟨pt, ⟨qa, qb, qc, qd⟩, kn⟩, ok⟩ := S
  clear hk hS
  simp only at HCA HS
  have HMA := hide (fun (w' : World) (hb : Below W.heap.size W w') => hM.below hb)
  have hin : i < n.dn := by rw [← hM.net.dlen]; exact (List.getElem?_eq_some_iff.1 hr).1
  have HM0 := hide hM
  have HRR := hide hr
  have HNN := hide hn
  clear hM
  obtain ⟨db, od, hdA, hdb, _⟩ := (HMA.out _ (Below.refl _ _)).net.ds.2 (by omega)
  have HDA := hide hdA
  obtain ⟨dn, hdn⟩ : ∃ dn, n.dn = dn := ⟨_, rfl⟩
  have HDN := hide hdn
  have i1 : (0 : Int) ≤ (i : Int) := by omega
  have i2 : (i : Int) < (dn : Int) := by omega
  have i3 : (dn : Int) ≤ 10 := by omega
  clear hr hdb hdA hdn hin hn
  go_enter Try.func44, Try.ntmps44
  go_wp2
  generalize hG : World.alloc (World.alloc (World.alloc W _) _) _ = W1
  have HW1 := hide (show W1.heap.size = W.heap.size + 3 from by rw [← hG]; simp)
  have HQ := hide (fun (B : Nat) (w' : World) (hb : Below B W1 w') => boxesV (B := B) [(#[.int .i64 (i : Int), .int .i64 y], 45), (#[.int .i64 p.src, .int .i64 p.dst, .int .i64 p.sport, .int .i64 p.dport], 38), (#[.int .i64 0, .int .i64 0, .int .i64 0, .int .i64 0, .int .i64 0, .nilFunc], 110)] W (W' := w') (by rw [← hG] at hb; exact hb))
  clear hG
  have HBB := hide (fun (w' : World) (hb : Below W1.heap.size W1 w') => show Below W.heap.size W w' from (HQ.out _ w' hb).2 (by rw [HW1.out]; omega))
  have HF := hide (fun (w' : World) (hb : Below W1.heap.size W1 w') => show
      (w'.cell? ⟨W.heap.size, 0, none⟩ = some (.int .i64 (i : Int)) ∧
      w'.cell? ⟨g, 0, none⟩ = some (.slice (some ⟨db, od, none⟩) dn n.dc) ∧
      (w'.cell? ⟨db, od + i * 7, none⟩ = some (.string r.name) ∧ w'.cell? ⟨db, od + i * 7 + 1, none⟩ = some (.int .i64 r.kind) ∧ w'.cell? ⟨db, od + i * 7 + 2, none⟩ = some (.int .i64 r.addr) ∧ w'.cell? ⟨db, od + i * 7 + 3, none⟩ = some (.int .u8 r.pool) ∧
      w'.cell? ⟨db, od + i * 7 + 4, none⟩ = some (.slice r.bA r.bn r.bc) ∧ w'.cell? ⟨db, od + i * 7 + 5, none⟩ = some (.slice r.rA r.rn r.rc) ∧ w'.cell? ⟨db, od + i * 7 + 6, none⟩ = some (.slice r.tA r.tn r.tc))) from by
    have x1 := (HQ.out _ w' hb).1 0 _ _ rfl (by rw [HW1.out]; omega)
    have hm := HMA.out _ (HBB.out w' hb)
    have hds := hm.net.ds
    rw [HDA.out] at hds
    obtain ⟨_, q0, q1, q2, q3, q4, q5, q6⟩ := dev_get hds HRR.out
    have hc0 := hm.c0
    rw [HDA.out, HDN.out] at hc0
    exact ⟨x1.1 0 _ rfl, hc0, q0, q1, q2, q3, q4, q5, q6⟩)
  refine wp_region_E (fun w' => Below W1.heap.size W1 w') 10 (by kernel_rfl) ((Below.refl _ _).drew) (fun hS => ?_)
  refine rP 0 hS ?_
  refine rP 1 hS ?_
  refine rP 2 hS ?_
  refine rP 3 hS ?_
  refine rL 4 [10] rfl hS (by intro w hSw; obtain ⟨s1, s2, ⟨s3, s4, s5, s6, s7, s8, s9⟩⟩ := HF.out _ hSw; go_simp; try with_reducible rfl) ?_
  refine rP 5 hS ?_
  refine rL 6 [10] rfl hS (by intro w hSw; obtain ⟨s1, s2, ⟨s3, s4, s5, s6, s7, s8, s9⟩⟩ := HF.out _ hSw; go_simp; try with_reducible rfl) ?_
  refine rP 7 hS ?_
  refine rL 8 [10] rfl hS (by intro w hSw; obtain ⟨s1, s2, ⟨s3, s4, s5, s6, s7, s8, s9⟩⟩ := HF.out _ hSw; go_simp; try with_reducible rfl) ?_
  intro inv
  refine rO 9 inv fun K hK => ?_
  go_simp
  refine hK.out _ _ (fun _ => (hS.alloc hS.size _)) ?_
  clear hK K hS inv
  intro inv
  try simp only [Act.put, nrmA, nrmB, nrmC]
  have hxz : BoxV ((W1.alloc (.cells #[.string ⟨#[]⟩, .int .i64 0, .int .i64 0, .int .u8 0, .slice none 0 0, .slice none 0 0, .slice none 0 0] 61)).drew) W1.heap.size #[.string ⟨#[]⟩, .int .i64 0, .int .i64 0, .int .u8 0, .slice none 0 0, .slice none 0 0, .slice none 0 0] := (BoxV.new W1 _ _).below ((Below.refl (W1.heap.size + 1) _).drew) (Nat.lt_succ_self _)
  have hbz : Below W1.heap.size W1 ((W1.alloc (.cells #[.string ⟨#[]⟩, .int .i64 0, .int .i64 0, .int .u8 0, .slice none 0 0, .slice none 0 0, .slice none 0 0] 61)).drew) := ((Below.refl _ _).alloc (Nat.le_refl _) _).drew
  have HXZ := hide hxz
  clear hxz
  refine rT 10 inv fun K hK => ?_
  rw [if_pos (by rfl)]
  refine wp_store_mid _ _ _ rfl _ _ r.arr rfl rfl (HXZ.out.there (Nat.le_refl _)) info_device (by first | exact DevV.arr_one _ | simp [Value.oneCell']) ?_
  refine hK.out _ _ ?_
  clear hK K inv
  intro inv
  try simp only [Act.put, nrmA, nrmB, nrmC]
  refine rD ?_
  clear inv
  have hA : AtOut W g n f o b M k i y p r W1.heap.size (((W1.alloc (.cells #[.string ⟨#[]⟩, .int .i64 0, .int .i64 0, .int .u8 0, .slice none 0 0, .slice none 0 0, .slice none 0 0] 61)).drew).setCells W1.heap.size 0 r.arr.toList) := by
    have hb2 := below_setCells (B := W1.heap.size) (Nat.le_refl _) r.arr.toList 0 _ hbz
    have h1 := HW1.out
    have hd := HXZ.out.all r.arr.toList rfl
    rw [Array.toArray_toList] at hd
    have hlt : W1.heap.size < (((W1.alloc (.cells #[.string ⟨#[]⟩, .int .i64 0, .int .i64 0, .int .u8 0, .slice none 0 0, .slice none 0 0, .slice none 0 0] 61)).drew).setCells W1.heap.size 0 r.arr.toList).heap.size := by
      have := (below_setCells (B := W1.heap.size) (Nat.le_refl _) r.arr.toList 0 ((W1.alloc (.cells #[.string ⟨#[]⟩, .int .i64 0, .int .i64 0, .int .u8 0, .slice none 0 0, .slice none 0 0, .slice none 0 0] 61)).drew) (Below.refl _ _)).size
      have e : ((W1.alloc (.cells #[.string ⟨#[]⟩, .int .i64 0, .int .i64 0, .int .u8 0, .slice none 0 0, .slice none 0 0, .slice none 0 0] 61)).drew).heap.size = W1.heap.size + 1 := by simp
      omega
    exact ⟨HMA.out, HBB.out _ hb2, (HQ.out _ _ hb2).1 0 _ _ rfl (by omega), (HQ.out _ _ hb2).1 1 _ _ rfl (by omega), (HQ.out _ _ hb2).1 2 _ _ rfl (by omega), hd, by omega, hlt⟩
  obtain ⟨G, hG⟩ : ∃ G, W1.heap.size = G := ⟨_, rfl⟩
  rw [hG] at hA ⊢
  clear hG hbz HXZ HF HQ HBB HMA HW1 HDA HDN
  generalize World.setCells _ _ _ _ = w2 at *
  have HA := hide hA
  clear hA i1 i2 i3
  have k1 : w2.cell? ⟨G, 1, none⟩ = some (.int .i64 3) := by rw [← HK.out]; exact HA.out.bd.1 1 _ rfl
  obtain ⟨j0, j1⟩ : w2.cell? ⟨W.heap.size, 0, none⟩ = some (.int .i64 (i : Int)) ∧ w2.cell? ⟨W.heap.size, 1, none⟩ = some (.int .i64 y) := ⟨HA.out.b1.1 0 _ rfl, HA.out.b1.1 1 _ rfl⟩
  obtain ⟨y0, y1, y2, y3⟩ : w2.cell? ⟨W.heap.size + 1, 0, none⟩ = some (.int .i64 p.src) ∧ w2.cell? ⟨W.heap.size + 1, 1, none⟩ = some (.int .i64 p.dst) ∧ w2.cell? ⟨W.heap.size + 1, 2, none⟩ = some (.int .i64 p.sport) ∧ w2.cell? ⟨W.heap.size + 1, 3, none⟩ = some (.int .i64 p.dport) := ⟨HA.out.b2.1 0 _ rfl, HA.out.b2.1 1 _ rfl, HA.out.b2.1 2 _ rfl, HA.out.b2.1 3 _ rfl⟩
  go_wp2_with fail
  refine (HCA.out _ HA.out.mem).mono ?_
  clear HCA j0 j1 y0 y1 y2 y3 k1
  rintro e w3 ⟨v, rfl, hkn, hb⟩
  have HA3 := hide (HA.out.below hb)
  have HKN := hide hkn
  have hv1 := hkn.one
  have hl : W.heap.size + 1 + 1 < w2.heap.size := Nat.lt_trans HA.out.hg HA.out.lt
  clear HA hb hkn
  simp only [goneV]
  go_wp2_with (first | ((with_reducible show wpList _ _ _ (⟨none, .store 110 (.tmp 14) _, _, _, _, _⟩ :: _) _ _); refine wpList_store_mid rfl 110 (.tmp 14) (.tmp 56) rfl w3.heap.size 0 #[.int .i64 pt, .int .i64 qa, .int .i64 qb, .int .i64 qc, .int .i64 qd, v] rfl rfl ((BoxV.new w3 _ _).there (Nat.le_refl _)) info_gone (one6 hv1) ?_; obtain ⟨hb4, hx4⟩ := put_box w3 [.int .i64 0, .int .i64 0, .int .i64 0, .int .i64 0, .int .i64 0, .nilFunc] [.int .i64 pt, .int .i64 qa, .int .i64 qb, .int .i64 qc, .int .i64 qd, v] rfl 110; have HA4 := hide (HA3.out.below hb4); have HK4 := hide (HKN.out.later (Same.of_below hb4) (Nat.le_refl _)); clear HA3 HKN hb4; generalize World.setCells _ _ _ _ = w4 at *; obtain ⟨u0, u1, u2, u3, u4, u5⟩ : w4.cell? ⟨w3.heap.size, 0, none⟩ = some (.int .i64 pt) ∧ w4.cell? ⟨w3.heap.size, 1, none⟩ = some (.int .i64 qa) ∧ w4.cell? ⟨w3.heap.size, 2, none⟩ = some (.int .i64 qb) ∧ w4.cell? ⟨w3.heap.size, 3, none⟩ = some (.int .i64 qc) ∧ w4.cell? ⟨w3.heap.size, 4, none⟩ = some (.int .i64 qd) ∧ w4.cell? ⟨w3.heap.size, 5, none⟩ = some v := ⟨hx4.1 0 _ rfl, hx4.1 1 _ rfl, hx4.1 2 _ rfl, hx4.1 3 _ rfl, hx4.1 4 _ rfl, hx4.1 5 _ rfl⟩; clear hx4) | ((with_reducible show wpList _ _ _ (⟨none, .store 110 (.tmp 8) _, _, _, _, _⟩ :: _) _ _); refine wpList_store_mid rfl 110 (.tmp 8) (.tmp 58) rfl (W.heap.size + 1 + 1) 0 #[.int .i64 pt, .int .i64 qa, .int .i64 qb, .int .i64 qc, .int .i64 qd, v] rfl rfl (HA4.out.b3.there (Nat.le_refl _)) info_gone (one6 hv1) ?_))
  have hx7 := (HA4.out).b3.all [.int .i64 pt, .int .i64 qa, .int .i64 qb, .int .i64 qc, .int .i64 qd, v] rfl
  have hb7 := below_setCells (B := W.heap.size) (N := W.heap.size + 1 + 1) (by omega) [.int .i64 pt, .int .i64 qa, .int .i64 qb, .int .i64 qc, .int .i64 qd, v] 0 _ (HA4.out).bl
  have hkn7 := (HK4.out).later (same_setCells (N := W.heap.size + 1 + 1) hl [.int .i64 pt, .int .i64 qa, .int .i64 qb, .int .i64 qc, .int .i64 qd, v] _) (L' := W.heap.size) (by omega)
  generalize World.setCells _ _ _ _ = w7 at *
  obtain ⟨z0, z1, z2, z3, z4, z5⟩ : w7.cell? ⟨W.heap.size + 1 + 1, 0, none⟩ = some (.int .i64 pt) ∧ w7.cell? ⟨W.heap.size + 1 + 1, 1, none⟩ = some (.int .i64 qa) ∧ w7.cell? ⟨W.heap.size + 1 + 1, 2, none⟩ = some (.int .i64 qb) ∧ w7.cell? ⟨W.heap.size + 1 + 1, 3, none⟩ = some (.int .i64 qc) ∧ w7.cell? ⟨W.heap.size + 1 + 1, 4, none⟩ = some (.int .i64 qd) ∧ w7.cell? ⟨W.heap.size + 1 + 1, 5, none⟩ = some (v) :=
    ⟨hx7.1 0 _ rfl, hx7.1 1 _ rfl, hx7.1 2 _ rfl, hx7.1 3 _ rfl, hx7.1 4 _ rfl, hx7.1 5 _ rfl⟩
  refine bodyPost_ret (v := .tuple #[goneV pt ⟨qa, qb, qc, qd⟩ (v), .bool ok, .int .i64 0]) (by simp [results, Try.f44, go_sem, z0, z1, z2, z3, z4, z5, goneV]) rfl ⟨v, by rw [HS.out]; all_goals rfl, ?_, hb7⟩
  rw [HS.out]
  exact hkn7
theorem out_bal (g : Nat) (n : NetV) (f o b : Nat) (M : MemS) (k : Nat) (i : Nat) (y : Int) (r : DevV) (p : P4) (ch : Int) (W : World) (hM : MemAt W g n f o b M k) (hr : n.ds[i]? = some r) (hn : n.dn ≤ 10) (hp : p.ok) (hch : i64ok ch) (hk : r.kind = 5) :
    Calls Try.prog 44 #[.pointer (some ⟨g, 0, none⟩), .agg #[.int .i64 (i : Int), .int .i64 y], .agg #[.int .i64 p.src, .int .i64 p.dst, .int .i64 p.sport, .int .i64 p.dport], .int .i64 ch] W fun e W' =>
          ∃ v, e = .returned (.tuple #[goneV (outS r.dev M i y p ch).1.port (outS r.dev M i y p ch).1.q v, .bool (outS r.dev M i y p ch).2.1, .int .i64 (outS r.dev M i y p ch).2.2]) ∧ KnowAt W.heap.size W' g n f o b v (outS r.dev M i y p ch).1.kn ∧ Below W.heap.size W W'
    := by
  obtain ⟨S, hS⟩ : ∃ S, balF r.dev M i y p ch = S := ⟨_, rfl⟩
  have HS := hide (show outS r.dev M i y p ch = (S.1, (S.2 == 0), S.2) from by rw [← hS]; simp [outS, DevV.dev, hk]; rfl)
  have HK := hide hk
  have HCA := hide (fun (w' : World) (hm : MemAt w' g n f o b M k) => bal_any g n f o b M k i y r p ch w' hm hr hn hp hch)
  rw [hS] at HCA
  obtain ⟨⟨pt, ⟨qa, qb, qc, qd⟩, kn⟩, er⟩ := S
  clear hk hS
  simp only at HCA HS
  have HMA := hide (fun (w' : World) (hb : Below W.heap.size W w') => hM.below hb)
  have hin : i < n.dn := by rw [← hM.net.dlen]; exact (List.getElem?_eq_some_iff.1 hr).1
  have HM0 := hide hM
  have HRR := hide hr
  have HNN := hide hn
  clear hM
  obtain ⟨db, od, hdA, hdb, _⟩ := (HMA.out _ (Below.refl _ _)).net.ds.2 (by omega)
  have HDA := hide hdA
  obtain ⟨dn, hdn⟩ : ∃ dn, n.dn = dn := ⟨_, rfl⟩
  have HDN := hide hdn
  have i1 : (0 : Int) ≤ (i : Int) := by omega
  have i2 : (i : Int) < (dn : Int) := by omega
  have i3 : (dn : Int) ≤ 10 := by omega
  clear hr hdb hdA hdn hin hn
  go_enter Try.func44, Try.ntmps44
  go_wp2
  generalize hG : World.alloc (World.alloc (World.alloc W _) _) _ = W1
  have HW1 := hide (show W1.heap.size = W.heap.size + 3 from by rw [← hG]; simp)
  have HQ := hide (fun (B : Nat) (w' : World) (hb : Below B W1 w') => boxesV (B := B) [(#[.int .i64 (i : Int), .int .i64 y], 45), (#[.int .i64 p.src, .int .i64 p.dst, .int .i64 p.sport, .int .i64 p.dport], 38), (#[.int .i64 0, .int .i64 0, .int .i64 0, .int .i64 0, .int .i64 0, .nilFunc], 110)] W (W' := w') (by rw [← hG] at hb; exact hb))
  clear hG
  have HBB := hide (fun (w' : World) (hb : Below W1.heap.size W1 w') => show Below W.heap.size W w' from (HQ.out _ w' hb).2 (by rw [HW1.out]; omega))
  have HF := hide (fun (w' : World) (hb : Below W1.heap.size W1 w') => show
      (w'.cell? ⟨W.heap.size, 0, none⟩ = some (.int .i64 (i : Int)) ∧
      w'.cell? ⟨g, 0, none⟩ = some (.slice (some ⟨db, od, none⟩) dn n.dc) ∧
      (w'.cell? ⟨db, od + i * 7, none⟩ = some (.string r.name) ∧ w'.cell? ⟨db, od + i * 7 + 1, none⟩ = some (.int .i64 r.kind) ∧ w'.cell? ⟨db, od + i * 7 + 2, none⟩ = some (.int .i64 r.addr) ∧ w'.cell? ⟨db, od + i * 7 + 3, none⟩ = some (.int .u8 r.pool) ∧
      w'.cell? ⟨db, od + i * 7 + 4, none⟩ = some (.slice r.bA r.bn r.bc) ∧ w'.cell? ⟨db, od + i * 7 + 5, none⟩ = some (.slice r.rA r.rn r.rc) ∧ w'.cell? ⟨db, od + i * 7 + 6, none⟩ = some (.slice r.tA r.tn r.tc))) from by
    have x1 := (HQ.out _ w' hb).1 0 _ _ rfl (by rw [HW1.out]; omega)
    have hm := HMA.out _ (HBB.out w' hb)
    have hds := hm.net.ds
    rw [HDA.out] at hds
    obtain ⟨_, q0, q1, q2, q3, q4, q5, q6⟩ := dev_get hds HRR.out
    have hc0 := hm.c0
    rw [HDA.out, HDN.out] at hc0
    exact ⟨x1.1 0 _ rfl, hc0, q0, q1, q2, q3, q4, q5, q6⟩)
  refine wp_region_E (fun w' => Below W1.heap.size W1 w') 10 (by kernel_rfl) ((Below.refl _ _).drew) (fun hS => ?_)
  refine rP 0 hS ?_
  refine rP 1 hS ?_
  refine rP 2 hS ?_
  refine rP 3 hS ?_
  refine rL 4 [10] rfl hS (by intro w hSw; obtain ⟨s1, s2, ⟨s3, s4, s5, s6, s7, s8, s9⟩⟩ := HF.out _ hSw; go_simp; try with_reducible rfl) ?_
  refine rP 5 hS ?_
  refine rL 6 [10] rfl hS (by intro w hSw; obtain ⟨s1, s2, ⟨s3, s4, s5, s6, s7, s8, s9⟩⟩ := HF.out _ hSw; go_simp; try with_reducible rfl) ?_
  refine rP 7 hS ?_
  refine rL 8 [10] rfl hS (by intro w hSw; obtain ⟨s1, s2, ⟨s3, s4, s5, s6, s7, s8, s9⟩⟩ := HF.out _ hSw; go_simp; try with_reducible rfl) ?_
  intro inv
  refine rO 9 inv fun K hK => ?_
  go_simp
  refine hK.out _ _ (fun _ => (hS.alloc hS.size _)) ?_
  clear hK K hS inv
  intro inv
  try simp only [Act.put, nrmA, nrmB, nrmC]
  have hxz : BoxV ((W1.alloc (.cells #[.string ⟨#[]⟩, .int .i64 0, .int .i64 0, .int .u8 0, .slice none 0 0, .slice none 0 0, .slice none 0 0] 61)).drew) W1.heap.size #[.string ⟨#[]⟩, .int .i64 0, .int .i64 0, .int .u8 0, .slice none 0 0, .slice none 0 0, .slice none 0 0] := (BoxV.new W1 _ _).below ((Below.refl (W1.heap.size + 1) _).drew) (Nat.lt_succ_self _)
  have hbz : Below W1.heap.size W1 ((W1.alloc (.cells #[.string ⟨#[]⟩, .int .i64 0, .int .i64 0, .int .u8 0, .slice none 0 0, .slice none 0 0, .slice none 0 0] 61)).drew) := ((Below.refl _ _).alloc (Nat.le_refl _) _).drew
  have HXZ := hide hxz
  clear hxz
  refine rT 10 inv fun K hK => ?_
  rw [if_pos (by rfl)]
  refine wp_store_mid _ _ _ rfl _ _ r.arr rfl rfl (HXZ.out.there (Nat.le_refl _)) info_device (by first | exact DevV.arr_one _ | simp [Value.oneCell']) ?_
  refine hK.out _ _ ?_
  clear hK K inv
  intro inv
  try simp only [Act.put, nrmA, nrmB, nrmC]
  refine rD ?_
  clear inv
  have hA : AtOut W g n f o b M k i y p r W1.heap.size (((W1.alloc (.cells #[.string ⟨#[]⟩, .int .i64 0, .int .i64 0, .int .u8 0, .slice none 0 0, .slice none 0 0, .slice none 0 0] 61)).drew).setCells W1.heap.size 0 r.arr.toList) := by
    have hb2 := below_setCells (B := W1.heap.size) (Nat.le_refl _) r.arr.toList 0 _ hbz
    have h1 := HW1.out
    have hd := HXZ.out.all r.arr.toList rfl
    rw [Array.toArray_toList] at hd
    have hlt : W1.heap.size < (((W1.alloc (.cells #[.string ⟨#[]⟩, .int .i64 0, .int .i64 0, .int .u8 0, .slice none 0 0, .slice none 0 0, .slice none 0 0] 61)).drew).setCells W1.heap.size 0 r.arr.toList).heap.size := by
      have := (below_setCells (B := W1.heap.size) (Nat.le_refl _) r.arr.toList 0 ((W1.alloc (.cells #[.string ⟨#[]⟩, .int .i64 0, .int .i64 0, .int .u8 0, .slice none 0 0, .slice none 0 0, .slice none 0 0] 61)).drew) (Below.refl _ _)).size
      have e : ((W1.alloc (.cells #[.string ⟨#[]⟩, .int .i64 0, .int .i64 0, .int .u8 0, .slice none 0 0, .slice none 0 0, .slice none 0 0] 61)).drew).heap.size = W1.heap.size + 1 := by simp
      omega
    exact ⟨HMA.out, HBB.out _ hb2, (HQ.out _ _ hb2).1 0 _ _ rfl (by omega), (HQ.out _ _ hb2).1 1 _ _ rfl (by omega), (HQ.out _ _ hb2).1 2 _ _ rfl (by omega), hd, by omega, hlt⟩
  obtain ⟨G, hG⟩ : ∃ G, W1.heap.size = G := ⟨_, rfl⟩
  rw [hG] at hA ⊢
  clear hG hbz HXZ HF HQ HBB HMA HW1 HDA HDN
  generalize World.setCells _ _ _ _ = w2 at *
  have HA := hide hA
  clear hA i1 i2 i3
  have k1 : w2.cell? ⟨G, 1, none⟩ = some (.int .i64 5) := by rw [← HK.out]; exact HA.out.bd.1 1 _ rfl
  obtain ⟨j0, j1⟩ : w2.cell? ⟨W.heap.size, 0, none⟩ = some (.int .i64 (i : Int)) ∧ w2.cell? ⟨W.heap.size, 1, none⟩ = some (.int .i64 y) := ⟨HA.out.b1.1 0 _ rfl, HA.out.b1.1 1 _ rfl⟩
  obtain ⟨y0, y1, y2, y3⟩ : w2.cell? ⟨W.heap.size + 1, 0, none⟩ = some (.int .i64 p.src) ∧ w2.cell? ⟨W.heap.size + 1, 1, none⟩ = some (.int .i64 p.dst) ∧ w2.cell? ⟨W.heap.size + 1, 2, none⟩ = some (.int .i64 p.sport) ∧ w2.cell? ⟨W.heap.size + 1, 3, none⟩ = some (.int .i64 p.dport) := ⟨HA.out.b2.1 0 _ rfl, HA.out.b2.1 1 _ rfl, HA.out.b2.1 2 _ rfl, HA.out.b2.1 3 _ rfl⟩
  go_wp2_with fail
  refine (HCA.out _ HA.out.mem).mono ?_
  clear HCA j0 j1 y0 y1 y2 y3 k1
  rintro e w3 ⟨v, rfl, hkn, hb⟩
  have HA3 := hide (HA.out.below hb)
  have HKN := hide hkn
  have hv1 := hkn.one
  have hl : W.heap.size + 1 + 1 < w2.heap.size := Nat.lt_trans HA.out.hg HA.out.lt
  clear HA hb hkn
  simp only [goneV]
  go_wp2_with (first | ((with_reducible show wpList _ _ _ (⟨none, .store 110 (.tmp 16) _, _, _, _, _⟩ :: _) _ _); refine wpList_store_mid rfl 110 (.tmp 16) (.tmp 78) rfl w3.heap.size 0 #[.int .i64 pt, .int .i64 qa, .int .i64 qb, .int .i64 qc, .int .i64 qd, v] rfl rfl ((BoxV.new w3 _ _).there (Nat.le_refl _)) info_gone (one6 hv1) ?_; obtain ⟨hb4, hx4⟩ := put_box w3 [.int .i64 0, .int .i64 0, .int .i64 0, .int .i64 0, .int .i64 0, .nilFunc] [.int .i64 pt, .int .i64 qa, .int .i64 qb, .int .i64 qc, .int .i64 qd, v] rfl 110; have HA4 := hide (HA3.out.below hb4); have HK4 := hide (HKN.out.later (Same.of_below hb4) (Nat.le_refl _)); clear HA3 HKN hb4; generalize World.setCells _ _ _ _ = w4 at *; obtain ⟨u0, u1, u2, u3, u4, u5⟩ : w4.cell? ⟨w3.heap.size, 0, none⟩ = some (.int .i64 pt) ∧ w4.cell? ⟨w3.heap.size, 1, none⟩ = some (.int .i64 qa) ∧ w4.cell? ⟨w3.heap.size, 2, none⟩ = some (.int .i64 qb) ∧ w4.cell? ⟨w3.heap.size, 3, none⟩ = some (.int .i64 qc) ∧ w4.cell? ⟨w3.heap.size, 4, none⟩ = some (.int .i64 qd) ∧ w4.cell? ⟨w3.heap.size, 5, none⟩ = some v := ⟨hx4.1 0 _ rfl, hx4.1 1 _ rfl, hx4.1 2 _ rfl, hx4.1 3 _ rfl, hx4.1 4 _ rfl, hx4.1 5 _ rfl⟩; clear hx4) | ((with_reducible show wpList _ _ _ (⟨none, .store 110 (.tmp 8) _, _, _, _, _⟩ :: _) _ _); refine wpList_store_mid rfl 110 (.tmp 8) (.tmp 80) rfl (W.heap.size + 1 + 1) 0 #[.int .i64 pt, .int .i64 qa, .int .i64 qb, .int .i64 qc, .int .i64 qd, v] rfl rfl (HA4.out.b3.there (Nat.le_refl _)) info_gone (one6 hv1) ?_))
  have hx7 := (HA4.out).b3.all [.int .i64 pt, .int .i64 qa, .int .i64 qb, .int .i64 qc, .int .i64 qd, v] rfl
  have hb7 := below_setCells (B := W.heap.size) (N := W.heap.size + 1 + 1) (by omega) [.int .i64 pt, .int .i64 qa, .int .i64 qb, .int .i64 qc, .int .i64 qd, v] 0 _ (HA4.out).bl
  have hkn7 := (HK4.out).later (same_setCells (N := W.heap.size + 1 + 1) hl [.int .i64 pt, .int .i64 qa, .int .i64 qb, .int .i64 qc, .int .i64 qd, v] _) (L' := W.heap.size) (by omega)
  generalize World.setCells _ _ _ _ = w7 at *
  obtain ⟨z0, z1, z2, z3, z4, z5⟩ : w7.cell? ⟨W.heap.size + 1 + 1, 0, none⟩ = some (.int .i64 pt) ∧ w7.cell? ⟨W.heap.size + 1 + 1, 1, none⟩ = some (.int .i64 qa) ∧ w7.cell? ⟨W.heap.size + 1 + 1, 2, none⟩ = some (.int .i64 qb) ∧ w7.cell? ⟨W.heap.size + 1 + 1, 3, none⟩ = some (.int .i64 qc) ∧ w7.cell? ⟨W.heap.size + 1 + 1, 4, none⟩ = some (.int .i64 qd) ∧ w7.cell? ⟨W.heap.size + 1 + 1, 5, none⟩ = some (v) :=
    ⟨hx7.1 0 _ rfl, hx7.1 1 _ rfl, hx7.1 2 _ rfl, hx7.1 3 _ rfl, hx7.1 4 _ rfl, hx7.1 5 _ rfl⟩
  refine bodyPost_ret (v := .tuple #[goneV pt ⟨qa, qb, qc, qd⟩ (v), .bool (er == 0), .int .i64 er]) (by simp [results, Try.f44, go_sem, z0, z1, z2, z3, z4, z5, goneV]) rfl ⟨v, by rw [HS.out]; all_goals rfl, ?_, hb7⟩
  rw [HS.out]
  exact hkn7
theorem out_rout (g : Nat) (n : NetV) (f o b : Nat) (M : MemS) (k : Nat) (i : Nat) (y : Int) (r : DevV) (p : P4) (ch : Int) (W : World) (hM : MemAt W g n f o b M k) (hr : n.ds[i]? = some r) (hn : n.dn ≤ 10) (hp : p.ok) (hk : r.kind = 2) :
    Calls Try.prog 44 #[.pointer (some ⟨g, 0, none⟩), .agg #[.int .i64 (i : Int), .int .i64 y], .agg #[.int .i64 p.src, .int .i64 p.dst, .int .i64 p.sport, .int .i64 p.dport], .int .i64 ch] W fun e W' =>
          ∃ v, e = .returned (.tuple #[goneV (outS r.dev M i y p ch).1.port (outS r.dev M i y p ch).1.q v, .bool (outS r.dev M i y p ch).2.1, .int .i64 (outS r.dev M i y p ch).2.2]) ∧ KnowAt W.heap.size W' g n f o b v (outS r.dev M i y p ch).1.kn ∧ Below W.heap.size W W'
    := by
  have hdk := hM.net.dok r (List.mem_of_getElem? hr)
  have htn : r.tn ≤ 9223372036854775807 := by have := hdk.ct; unfold maxLen at this; omega
  have hrn : r.rn ≤ 9223372036854775807 := by have := hdk.cr; unfold maxLen at this; omega
  have HP := hide hp
  have HO := hide (fun (w' : World) (hm : MemAt w' g n f o b M k) => out_any r.ts r.tA r.tn r.tc p.dst w' htn hp.2.1 (hm.net.dok r (List.mem_of_getElem? hr)).ts hdk.tok)
  have HL := hide (fun (w' : World) (hm : MemAt w' g n f o b M k) => lets_walk r.rs r.rA r.rn r.rc p w' hrn hp (hm.net.dok r (List.mem_of_getElem? hr)).rs)
  obtain ⟨op, hop⟩ : ∃ x, outF p.dst r.ts = x := ⟨_, rfl⟩
  obtain ⟨lb, hlb⟩ : ∃ x, letsB r.rs p = x := ⟨_, rfl⟩
  have HS := hide (show outS r.dev M i y p ch = (⟨op.1, p, .nothing⟩, decide (0 ≤ op.2) && lb, 0) from by rw [← hop, ← hlb]; simp [outS, DevV.dev, hk, routF])
  simp only [hop, hlb] at HO HL
  clear hop hlb
  obtain ⟨pt, ob⟩ := op
  obtain ⟨OB, hOB⟩ : ∃ x, decide (0 ≤ ob) = x := ⟨_, rfl⟩
  simp only [hOB] at HO HS
  clear hOB hdk htn hrn
  have HK := hide hk
  clear hk
  have HMA := hide (fun (w' : World) (hb : Below W.heap.size W w') => hM.below hb)
  have hin : i < n.dn := by rw [← hM.net.dlen]; exact (List.getElem?_eq_some_iff.1 hr).1
  have HM0 := hide hM
  have HRR := hide hr
  have HNN := hide hn
  clear hM
  obtain ⟨db, od, hdA, hdb, _⟩ := (HMA.out _ (Below.refl _ _)).net.ds.2 (by omega)
  have HDA := hide hdA
  obtain ⟨dn, hdn⟩ : ∃ dn, n.dn = dn := ⟨_, rfl⟩
  have HDN := hide hdn
  have i1 : (0 : Int) ≤ (i : Int) := by omega
  have i2 : (i : Int) < (dn : Int) := by omega
  have i3 : (dn : Int) ≤ 10 := by omega
  clear hr hdb hdA hdn hin hn
  go_enter Try.func44, Try.ntmps44
  go_wp2
  generalize hG : World.alloc (World.alloc (World.alloc W _) _) _ = W1
  have HW1 := hide (show W1.heap.size = W.heap.size + 3 from by rw [← hG]; simp)
  have HQ := hide (fun (B : Nat) (w' : World) (hb : Below B W1 w') => boxesV (B := B) [(#[.int .i64 (i : Int), .int .i64 y], 45), (#[.int .i64 p.src, .int .i64 p.dst, .int .i64 p.sport, .int .i64 p.dport], 38), (#[.int .i64 0, .int .i64 0, .int .i64 0, .int .i64 0, .int .i64 0, .nilFunc], 110)] W (W' := w') (by rw [← hG] at hb; exact hb))
  clear hG
  have HBB := hide (fun (w' : World) (hb : Below W1.heap.size W1 w') => show Below W.heap.size W w' from (HQ.out _ w' hb).2 (by rw [HW1.out]; omega))
  have HF := hide (fun (w' : World) (hb : Below W1.heap.size W1 w') => show
      (w'.cell? ⟨W.heap.size, 0, none⟩ = some (.int .i64 (i : Int)) ∧
      w'.cell? ⟨g, 0, none⟩ = some (.slice (some ⟨db, od, none⟩) dn n.dc) ∧
      (w'.cell? ⟨db, od + i * 7, none⟩ = some (.string r.name) ∧ w'.cell? ⟨db, od + i * 7 + 1, none⟩ = some (.int .i64 r.kind) ∧ w'.cell? ⟨db, od + i * 7 + 2, none⟩ = some (.int .i64 r.addr) ∧ w'.cell? ⟨db, od + i * 7 + 3, none⟩ = some (.int .u8 r.pool) ∧
      w'.cell? ⟨db, od + i * 7 + 4, none⟩ = some (.slice r.bA r.bn r.bc) ∧ w'.cell? ⟨db, od + i * 7 + 5, none⟩ = some (.slice r.rA r.rn r.rc) ∧ w'.cell? ⟨db, od + i * 7 + 6, none⟩ = some (.slice r.tA r.tn r.tc))) from by
    have x1 := (HQ.out _ w' hb).1 0 _ _ rfl (by rw [HW1.out]; omega)
    have hm := HMA.out _ (HBB.out w' hb)
    have hds := hm.net.ds
    rw [HDA.out] at hds
    obtain ⟨_, q0, q1, q2, q3, q4, q5, q6⟩ := dev_get hds HRR.out
    have hc0 := hm.c0
    rw [HDA.out, HDN.out] at hc0
    exact ⟨x1.1 0 _ rfl, hc0, q0, q1, q2, q3, q4, q5, q6⟩)
  refine wp_region_E (fun w' => Below W1.heap.size W1 w') 10 (by kernel_rfl) ((Below.refl _ _).drew) (fun hS => ?_)
  refine rP 0 hS ?_
  refine rP 1 hS ?_
  refine rP 2 hS ?_
  refine rP 3 hS ?_
  refine rL 4 [10] rfl hS (by intro w hSw; obtain ⟨s1, s2, ⟨s3, s4, s5, s6, s7, s8, s9⟩⟩ := HF.out _ hSw; go_simp; try with_reducible rfl) ?_
  refine rP 5 hS ?_
  refine rL 6 [10] rfl hS (by intro w hSw; obtain ⟨s1, s2, ⟨s3, s4, s5, s6, s7, s8, s9⟩⟩ := HF.out _ hSw; go_simp; try with_reducible rfl) ?_
  refine rP 7 hS ?_
  refine rL 8 [10] rfl hS (by intro w hSw; obtain ⟨s1, s2, ⟨s3, s4, s5, s6, s7, s8, s9⟩⟩ := HF.out _ hSw; go_simp; try with_reducible rfl) ?_
  intro inv
  refine rO 9 inv fun K hK => ?_
  go_simp
  refine hK.out _ _ (fun _ => (hS.alloc hS.size _)) ?_
  clear hK K hS inv
  intro inv
  try simp only [Act.put, nrmA, nrmB, nrmC]
  have hxz : BoxV ((W1.alloc (.cells #[.string ⟨#[]⟩, .int .i64 0, .int .i64 0, .int .u8 0, .slice none 0 0, .slice none 0 0, .slice none 0 0] 61)).drew) W1.heap.size #[.string ⟨#[]⟩, .int .i64 0, .int .i64 0, .int .u8 0, .slice none 0 0, .slice none 0 0, .slice none 0 0] := (BoxV.new W1 _ _).below ((Below.refl (W1.heap.size + 1) _).drew) (Nat.lt_succ_self _)
  have hbz : Below W1.heap.size W1 ((W1.alloc (.cells #[.string ⟨#[]⟩, .int .i64 0, .int .i64 0, .int .u8 0, .slice none 0 0, .slice none 0 0, .slice none 0 0] 61)).drew) := ((Below.refl _ _).alloc (Nat.le_refl _) _).drew
  have HXZ := hide hxz
  clear hxz
  refine rT 10 inv fun K hK => ?_
  rw [if_pos (by rfl)]
  refine wp_store_mid _ _ _ rfl _ _ r.arr rfl rfl (HXZ.out.there (Nat.le_refl _)) info_device (by first | exact DevV.arr_one _ | simp [Value.oneCell']) ?_
  refine hK.out _ _ ?_
  clear hK K inv
  intro inv
  try simp only [Act.put, nrmA, nrmB, nrmC]
  refine rD ?_
  clear inv
  have hA : AtOut W g n f o b M k i y p r W1.heap.size (((W1.alloc (.cells #[.string ⟨#[]⟩, .int .i64 0, .int .i64 0, .int .u8 0, .slice none 0 0, .slice none 0 0, .slice none 0 0] 61)).drew).setCells W1.heap.size 0 r.arr.toList) := by
    have hb2 := below_setCells (B := W1.heap.size) (Nat.le_refl _) r.arr.toList 0 _ hbz
    have h1 := HW1.out
    have hd := HXZ.out.all r.arr.toList rfl
    rw [Array.toArray_toList] at hd
    have hlt : W1.heap.size < (((W1.alloc (.cells #[.string ⟨#[]⟩, .int .i64 0, .int .i64 0, .int .u8 0, .slice none 0 0, .slice none 0 0, .slice none 0 0] 61)).drew).setCells W1.heap.size 0 r.arr.toList).heap.size := by
      have := (below_setCells (B := W1.heap.size) (Nat.le_refl _) r.arr.toList 0 ((W1.alloc (.cells #[.string ⟨#[]⟩, .int .i64 0, .int .i64 0, .int .u8 0, .slice none 0 0, .slice none 0 0, .slice none 0 0] 61)).drew) (Below.refl _ _)).size
      have e : ((W1.alloc (.cells #[.string ⟨#[]⟩, .int .i64 0, .int .i64 0, .int .u8 0, .slice none 0 0, .slice none 0 0, .slice none 0 0] 61)).drew).heap.size = W1.heap.size + 1 := by simp
      omega
    exact ⟨HMA.out, HBB.out _ hb2, (HQ.out _ _ hb2).1 0 _ _ rfl (by omega), (HQ.out _ _ hb2).1 1 _ _ rfl (by omega), (HQ.out _ _ hb2).1 2 _ _ rfl (by omega), hd, by omega, hlt⟩
  obtain ⟨G, hG⟩ : ∃ G, W1.heap.size = G := ⟨_, rfl⟩
  rw [hG] at hA ⊢
  clear hG hbz HXZ HF HQ HBB HMA HW1 HDA HDN
  generalize World.setCells _ _ _ _ = w2 at *
  have HA := hide hA
  clear hA i1 i2 i3
  have x6 : w2.cell? ⟨G, 6, none⟩ = some (.slice r.tA r.tn r.tc) := HA.out.bd.1 6 _ rfl
  have k1 : w2.cell? ⟨G, 1, none⟩ = some (.int .i64 2) := by rw [← HK.out]; exact HA.out.bd.1 1 _ rfl
  obtain ⟨j0, j1⟩ : w2.cell? ⟨W.heap.size, 0, none⟩ = some (.int .i64 (i : Int)) ∧ w2.cell? ⟨W.heap.size, 1, none⟩ = some (.int .i64 y) := ⟨HA.out.b1.1 0 _ rfl, HA.out.b1.1 1 _ rfl⟩
  obtain ⟨y0, y1, y2, y3⟩ : w2.cell? ⟨W.heap.size + 1, 0, none⟩ = some (.int .i64 p.src) ∧ w2.cell? ⟨W.heap.size + 1, 1, none⟩ = some (.int .i64 p.dst) ∧ w2.cell? ⟨W.heap.size + 1, 2, none⟩ = some (.int .i64 p.sport) ∧ w2.cell? ⟨W.heap.size + 1, 3, none⟩ = some (.int .i64 p.dport) := ⟨HA.out.b2.1 0 _ rfl, HA.out.b2.1 1 _ rfl, HA.out.b2.1 2 _ rfl, HA.out.b2.1 3 _ rfl⟩
  go_wp2_with fail
  refine (HO.out _ HA.out.mem).mono ?_
  clear HO j0 j1 y0 y1 y2 y3 k1 x6
  rintro e w3 ⟨rfl, hb⟩
  have HA3 := hide (HA.out.below hb)
  clear HA hb
  have HF := hide (fun (w' : World) (hb : Below w3.heap.size w3 w') => show
      ((w'.cell? ⟨W.heap.size + 1, 0, none⟩ = some (.int .i64 p.src) ∧ w'.cell? ⟨W.heap.size + 1, 1, none⟩ = some (.int .i64 p.dst) ∧ w'.cell? ⟨W.heap.size + 1, 2, none⟩ = some (.int .i64 p.sport) ∧ w'.cell? ⟨W.heap.size + 1, 3, none⟩ = some (.int .i64 p.dport)) ∧
      w'.cell? ⟨G, 5, none⟩ = some (.slice r.rA r.rn r.rc)) from by
    have q := HA3.out.below hb
    exact ⟨⟨q.b2.1 0 _ rfl, q.b2.1 1 _ rfl, q.b2.1 2 _ rfl, q.b2.1 3 _ rfl⟩, q.bd.1 5 _ rfl⟩)
  go_wp2_with fail
  refine wp_region_E (fun w' => Below w3.heap.size w3 w') 10 (by kernel_rfl) ((Below.refl _ _).drew) (fun hS inv => ?_)
  cases OB
  · have HS := hide (show outS r.dev M i y p ch = (⟨pt, ⟨p.src, p.dst, p.sport, p.dport⟩, .nothing⟩, false, 0) from HS.out)
    revert inv
    refine rP 0 hS ?_
    refine rL 1 [10] rfl hS (by intro w hSw; obtain ⟨⟨s0, s1, s2, s3⟩, s4⟩ := HF.out _ hSw; go_simp; try with_reducible rfl) ?_
    refine rP 2 hS ?_
    refine rP 3 hS ?_
    refine rP 4 hS ?_
    refine rK 5 hS ?_
    refine rK 6 hS ?_
    refine rK 7 hS ?_
    refine rK 8 hS ?_
    refine rP 9 hS ?_
    intro inv
    have HB4 := hide hS
    have HA4 := hide (HA3.out.below hS)
    refine rT 10 inv fun K hK => ?_
    rw [if_pos (by rfl)]
    refine wp_store_mid _ _ _ rfl _ _ #[.int .i64 pt, .int .i64 p.src, .int .i64 p.dst, .int .i64 p.sport, .int .i64 p.dport, .nilFunc] rfl rfl (HA4.out.b3.there (Nat.le_refl _)) info_gone (by first | exact DevV.arr_one _ | simp [Value.oneCell']) ?_
    refine hK.out _ _ ?_
    clear hK K inv
    intro inv
    try simp only [Act.put, nrmA, nrmB, nrmC]
    refine rT 11 inv fun K hK => ?_
    go_simp
    refine hK.out _ _ ?_
    clear hK K inv
    intro inv
    try simp only [Act.put, nrmA, nrmB, nrmC]
    refine rT 12 inv fun K hK => ?_
    go_simp
    refine hK.out _ _ ?_
    clear hK K inv
    intro inv
    try simp only [Act.put, nrmA, nrmB, nrmC]
    refine rD ?_
    clear inv
    have hx7 := HA4.out.b3.all [.int .i64 pt, .int .i64 p.src, .int .i64 p.dst, .int .i64 p.sport, .int .i64 p.dport, .nilFunc] rfl
    have hb7 := below_setCells (B := W.heap.size) (N := W.heap.size + 1 + 1) (by omega) [.int .i64 pt, .int .i64 p.src, .int .i64 p.dst, .int .i64 p.sport, .int .i64 p.dport, .nilFunc] 0 _ HA4.out.bl
    generalize World.setCells _ _ _ _ = w7 at *
    go_wp2_with fail
    obtain ⟨z0, z1, z2, z3, z4, z5⟩ : w7.cell? ⟨W.heap.size + 1 + 1, 0, none⟩ = some (.int .i64 pt) ∧ w7.cell? ⟨W.heap.size + 1 + 1, 1, none⟩ = some (.int .i64 p.src) ∧ w7.cell? ⟨W.heap.size + 1 + 1, 2, none⟩ = some (.int .i64 p.dst) ∧ w7.cell? ⟨W.heap.size + 1 + 1, 3, none⟩ = some (.int .i64 p.sport) ∧ w7.cell? ⟨W.heap.size + 1 + 1, 4, none⟩ = some (.int .i64 p.dport) ∧ w7.cell? ⟨W.heap.size + 1 + 1, 5, none⟩ = some (.nilFunc) :=
      ⟨hx7.1 0 _ rfl, hx7.1 1 _ rfl, hx7.1 2 _ rfl, hx7.1 3 _ rfl, hx7.1 4 _ rfl, hx7.1 5 _ rfl⟩
    refine bodyPost_ret (v := .tuple #[goneV pt ⟨p.src, p.dst, p.sport, p.dport⟩ (.nilFunc), .bool false, .int .i64 0]) (by simp [results, Try.f44, go_sem, z0, z1, z2, z3, z4, z5, goneV]) rfl ⟨.nilFunc, by rw [HS.out]; all_goals rfl, ?_, hb7⟩
    rw [HS.out]
    exact .inl ⟨rfl, rfl⟩
  · have HS := hide (show outS r.dev M i y p ch = (⟨pt, ⟨p.src, p.dst, p.sport, p.dport⟩, .nothing⟩, lb, 0) from by rw [HS.out]; simp)
    revert inv
    refine rP 0 hS ?_
    refine rL 1 [10] rfl hS (by intro w hSw; obtain ⟨⟨s0, s1, s2, s3⟩, s4⟩ := HF.out _ hSw; go_simp; try with_reducible rfl) ?_
    refine rP 2 hS ?_
    refine rP 3 hS ?_
    refine rP 4 hS ?_
    refine rP 5 hS ?_
    refine rL 6 [8, 10] rfl hS (by intro w hSw; obtain ⟨⟨s0, s1, s2, s3⟩, s4⟩ := HF.out _ hSw; go_simp; try with_reducible rfl) ?_
    refine rL 7 [8, 10] rfl hS (by intro w hSw; obtain ⟨⟨s0, s1, s2, s3⟩, s4⟩ := HF.out _ hSw; go_simp; try with_reducible rfl) ?_
    intro inv
    refine rO 8 inv fun K hK => ?_
    go_simp
    go_at_call 58
    refine (HL.out _ (HA3.out.below hS).mem).mono ?_
    rintro e w4 ⟨rfl, hb⟩
    have HB4 := hide (hS.trans (hb.mono hS.size))
    clear hb
    go_wp2_with fail
    refine hK.out _ _ (fun _ => HB4.out) ?_
    clear hK K hS inv
    intro inv
    try simp only [Act.put, nrmA, nrmB, nrmC]
    have HA4 := hide (HA3.out.below HB4.out)
    have hS := HB4.out
    revert inv
    refine rP 9 hS ?_
    intro inv
    refine rT 10 inv fun K hK => ?_
    rw [if_pos (by rfl)]
    refine wp_store_mid _ _ _ rfl _ _ #[.int .i64 pt, .int .i64 p.src, .int .i64 p.dst, .int .i64 p.sport, .int .i64 p.dport, .nilFunc] rfl rfl (HA4.out.b3.there (Nat.le_refl _)) info_gone (by first | exact DevV.arr_one _ | simp [Value.oneCell']) ?_
    refine hK.out _ _ ?_
    clear hK K inv
    intro inv
    try simp only [Act.put, nrmA, nrmB, nrmC]
    refine rT 11 inv fun K hK => ?_
    go_simp
    refine hK.out _ _ ?_
    clear hK K inv
    intro inv
    try simp only [Act.put, nrmA, nrmB, nrmC]
    refine rT 12 inv fun K hK => ?_
    go_simp
    refine hK.out _ _ ?_
    clear hK K inv
    intro inv
    try simp only [Act.put, nrmA, nrmB, nrmC]
    refine rD ?_
    clear inv
    have hx7 := HA4.out.b3.all [.int .i64 pt, .int .i64 p.src, .int .i64 p.dst, .int .i64 p.sport, .int .i64 p.dport, .nilFunc] rfl
    have hb7 := below_setCells (B := W.heap.size) (N := W.heap.size + 1 + 1) (by omega) [.int .i64 pt, .int .i64 p.src, .int .i64 p.dst, .int .i64 p.sport, .int .i64 p.dport, .nilFunc] 0 _ HA4.out.bl
    generalize World.setCells _ _ _ _ = w7 at *
    go_wp2_with fail
    obtain ⟨z0, z1, z2, z3, z4, z5⟩ : w7.cell? ⟨W.heap.size + 1 + 1, 0, none⟩ = some (.int .i64 pt) ∧ w7.cell? ⟨W.heap.size + 1 + 1, 1, none⟩ = some (.int .i64 p.src) ∧ w7.cell? ⟨W.heap.size + 1 + 1, 2, none⟩ = some (.int .i64 p.dst) ∧ w7.cell? ⟨W.heap.size + 1 + 1, 3, none⟩ = some (.int .i64 p.sport) ∧ w7.cell? ⟨W.heap.size + 1 + 1, 4, none⟩ = some (.int .i64 p.dport) ∧ w7.cell? ⟨W.heap.size + 1 + 1, 5, none⟩ = some (.nilFunc) :=
      ⟨hx7.1 0 _ rfl, hx7.1 1 _ rfl, hx7.1 2 _ rfl, hx7.1 3 _ rfl, hx7.1 4 _ rfl, hx7.1 5 _ rfl⟩
    refine bodyPost_ret (v := .tuple #[goneV pt ⟨p.src, p.dst, p.sport, p.dport⟩ (.nilFunc), .bool lb, .int .i64 0]) (by simp [results, Try.f44, go_sem, z0, z1, z2, z3, z4, z5, goneV]) rfl ⟨.nilFunc, by rw [HS.out]; all_goals rfl, ?_, hb7⟩
    rw [HS.out]
    exact .inl ⟨rfl, rfl⟩
theorem outAll_walk (g : Nat) (n : NetV) (f o b : Nat) (M : MemS) (k : Nat) (i : Nat) (y : Int) (r : DevV) (p : P4) (ch : Int) (W : World) (hM : MemAt W g n f o b M k) (hr : n.ds[i]? = some r) (hn : n.dn ≤ 10) (hp : p.ok) (hch : i64ok ch) (h1 : 1 ≤ r.kind) (h5 : r.kind ≤ 5) :
    Calls Try.prog 44 #[.pointer (some ⟨g, 0, none⟩), .agg #[.int .i64 (i : Int), .int .i64 y], .agg #[.int .i64 p.src, .int .i64 p.dst, .int .i64 p.sport, .int .i64 p.dport], .int .i64 ch] W fun e W' =>
          ∃ v, e = .returned (.tuple #[goneV (outS r.dev M i y p ch).1.port (outS r.dev M i y p ch).1.q v, .bool (outS r.dev M i y p ch).2.1, .int .i64 (outS r.dev M i y p ch).2.2]) ∧ KnowAt W.heap.size W' g n f o b v (outS r.dev M i y p ch).1.kn ∧ Below W.heap.size W W'
    := by
  rcases (show r.kind = 1 ∨ r.kind = 2 ∨ r.kind = 3 ∨ r.kind = 4 ∨ r.kind = 5 by omega) with h | h | h | h | h
  · exact out_host g n f o b M k i y r p ch W hM hr hn hp h
  · exact out_rout g n f o b M k i y r p ch W hM hr hn hp h
  · exact out_fire g n f o b M k i y r p ch W hM hr hn hp h
  · exact out_nat g n f o b M k i y r p ch W hM hr hn hp hch h
  · exact out_bal g n f o b M k i y r p ch W hM hr hn hp hch h
end Go.Proofs.Ytifkacnoiocebaa
