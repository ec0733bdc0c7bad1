/- A part of the proof: StepBalO. -/
import Derived.Test.YtifkacnoiocebaaNw9
set_option linter.unusedVariables false
set_option linter.unusedSimpArgs false
set_option maxRecDepth 100000
set_option maxHeartbeats 16000000
namespace Go.Proofs.Ytifkacnoiocebaa
open Go.Maps Go.RowKit
theorem bal_out (g : Nat) (n : NetV) (f o b : Nat) (M : MemS) (k : Nat) (i : Nat) (y : Int) (r : DevV) (p : P4) (ch : Int) (W : World) (hM : MemAt W g n f o b M k) (hr : n.ds[i]? = some r) (hn : n.dn ≤ 10) (hp : p.ok) (hy : y ≠ 1) (hch : i64ok ch) :
    Calls Try.prog 61 #[.pointer (some ⟨g, 0, none⟩), .agg #[.int .i64 (i : Int), .int .i64 y], .agg #[.int .i64 p.src, .int .i64 p.dst, .int .i64 p.sport, .int .i64 p.dport], .int .i64 ch] W fun e W' =>
      ∃ v, e = .returned (.tuple #[goneV (balF r.dev M i y p ch).1.port (balF r.dev M i y p ch).1.q v, .int .i64 (balF r.dev M i y p ch).2]) ∧ KnowAt W.heap.size W' g n f o b v (balF r.dev M i y p ch).1.kn ∧ Below W.heap.size W W' := by
  have hia : i64ok (i : Int) := by have : i < n.dn := (by rw [← hM.net.dlen]; exact (List.getElem?_eq_some_iff.1 hr).1); unfold i64ok; omega
  have hbs := (hM.net.dok r (List.mem_of_getElem? hr)).bs
  have hbc := (hM.net.dok r (List.mem_of_getElem? hr)).cb
  obtain ⟨u, tb, hlk, hmb, hui⟩ : ∃ u tb, (∀ w', MemAt w' g n f o b M k → (Instr.lookup 99 (.map (some b)) (.agg #[.int .i64 (i : Int), .int .i64 p.src, .int .i64 p.dst, .int .i64 p.sport, .int .i64 p.dport]) true).run Try.prog w' = .ok (.tuple #[.int .i64 u, .bool tb]) w') ∧
      (M.B ((i : Int), p) = if tb then some u else none) ∧ i64ok u := by
    have hk : ofDom ((i : Int), p) := ⟨hia, hp⟩
    cases hO : M.B ((i : Int), p) with
    | none =>
      refine ⟨0, false, fun w' hm => ?_, rfl, by simp [i64ok]⟩
      have := hm.lookB _ hk; rw [hO] at this; exact this
    | some x =>
      refine ⟨x, true, fun w' hm => ?_, rfl, hM.ob _ _ hO⟩
      have := hm.lookB _ hk; rw [hO] at this; exact this
  have hres : balF r.dev M i y p ch = if p.dst ≠ r.addr then ((⟨1, p, .nothing⟩, 0) : GoneS × Int) else if tb = true then (⟨1, ⟨p.src, u, p.sport, p.dport⟩, .back (i, p) u⟩, 0)
      else match (motive := Option Int → GoneS × Int) (if ch < 0 then none else r.bs[ch.toNat]?) with
        | some b => (⟨1, ⟨p.src, b, p.sport, p.dport⟩, .back (i, p) b⟩, 0)
        | none => (.zero, 1) := by
    rw [balF, if_neg hy, hmb]
    cases tb <;> rfl
  obtain ⟨NF, hNF⟩ : ∃ NF, balF r.dev M i y p ch = NF := ⟨_, rfl⟩
  rw [hNF] at hres ⊢
  have HNF := hide hres
  have HLK := hide hlk
  have HUI := hide hui
  have HIA := hide hia
  have HBS := hide (fun (w' : World) (hb : Below W.heap.size W w') => ((hM.below hb).net.dok r (List.mem_of_getElem? hr)).bs)
  have hbl : r.bs.length = r.bn := hbs.1
  have d0 : (y == 1) = false := by simpa using hy
  clear hres hlk hNF hmb hy hui hia hbs
  have HMA := hide (fun (w' : World) (hb : Below W.heap.size W w') => hM.below hb)
  have hin : i < n.dn := by rw [← hM.net.dlen]; exact (List.getElem?_eq_some_iff.1 hr).1
  clear hM
  obtain ⟨dA, dn, dc, ds, lA, ln, lc, ls⟩ := n
  simp only at hr hn hin
  obtain ⟨db, od, rfl, hdb, _⟩ := (HMA.out _ (Below.refl _ _)).net.ds.2 (by show 0 < dn; omega)
  have HRR := hide hr
  clear hr hdb
  have i1 : (0 : Int) ≤ (i : Int) := by omega
  have i2 : (i : Int) < (dn : Int) := by omega
  have i3 : (dn : Int) ≤ 10 := by omega
  go_enter Try.func61, Try.ntmps61
  go_wp2
  generalize hG : World.alloc (World.alloc (World.alloc (World.alloc W _) _) _) _ = W1
  have HW1 := hide (show W1.heap.size = W.heap.size + 4 from by rw [← hG]; simp)
  have HQ := hide (fun (B : Nat) (w' : World) (hb : Below B W1 w') => boxesV (B := B) [(#[.pointer (some ⟨g, 0, none⟩)], 72), (#[.int .i64 (i : Int), .int .i64 y], 45), (#[.int .i64 p.src, .int .i64 p.dst, .int .i64 p.sport, .int .i64 p.dport], 38), (#[.int .i64 0, .int .i64 0, .int .i64 0, .int .i64 0, .int .i64 0, .nilFunc], 110)] W (W' := w') (by rw [← hG] at hb; exact hb))
  clear hG
  have HBB := hide (fun (w' : World) (hb : Below W1.heap.size W1 w') => show Below W.heap.size W w' from (HQ.out _ w' hb).2 (by rw [HW1.out]; omega))
  have HF := hide (fun (w' : World) (hb : Below W1.heap.size W1 w') => show
      (w'.cell? ⟨W.heap.size, 0, none⟩ = some (.pointer (some ⟨g, 0, none⟩)) ∧ w'.cell? ⟨W.heap.size + 1, 0, none⟩ = some (.int .i64 (i : Int)) ∧
      w'.cell? ⟨g, 0, none⟩ = some (.slice (some ⟨db, od, none⟩) dn dc) ∧
      (w'.cell? ⟨db, od + i * 7, none⟩ = some (.string r.name) ∧ w'.cell? ⟨db, od + i * 7 + 1, none⟩ = some (.int .i64 r.kind) ∧ w'.cell? ⟨db, od + i * 7 + 2, none⟩ = some (.int .i64 r.addr) ∧ w'.cell? ⟨db, od + i * 7 + 3, none⟩ = some (.int .u8 r.pool) ∧
      w'.cell? ⟨db, od + i * 7 + 4, none⟩ = some (.slice r.bA r.bn r.bc) ∧ w'.cell? ⟨db, od + i * 7 + 5, none⟩ = some (.slice r.rA r.rn r.rc) ∧ w'.cell? ⟨db, od + i * 7 + 6, none⟩ = some (.slice r.tA r.tn r.tc))) from by
    have x0 := (HQ.out _ w' hb).1 0 _ _ rfl (by rw [HW1.out]; omega)
    have x1 := (HQ.out _ w' hb).1 1 _ _ rfl (by rw [HW1.out]; omega)
    have hm := HMA.out _ (HBB.out w' hb)
    obtain ⟨_, q0, q1, q2, q3, q4, q5, q6⟩ := dev_get hm.net.ds HRR.out
    exact ⟨x0.1 0 _ rfl, x1.1 0 _ rfl, hm.c0, q0, q1, q2, q3, q4, q5, q6⟩)
  refine wp_region_E (fun w' => Below W1.heap.size W1 w') 10 (by kernel_rfl) ((Below.refl _ _).drew) (fun hS => ?_)
  refine rL 0 [10] rfl hS (by intro w hSw; obtain ⟨s0, s1, s2, ⟨s3, s4, s5, s6, s7, s8, s9⟩⟩ := HF.out _ hSw; go_simp; try with_reducible rfl) ?_
  refine rP 1 hS ?_
  refine rP 2 hS ?_
  refine rP 3 hS ?_
  refine rL 4 [10] rfl hS (by intro w hSw; obtain ⟨s0, s1, s2, ⟨s3, s4, s5, s6, s7, s8, s9⟩⟩ := HF.out _ hSw; go_simp; try with_reducible rfl) ?_
  refine rP 5 hS ?_
  refine rL 6 [10] rfl hS (by intro w hSw; obtain ⟨s0, s1, s2, ⟨s3, s4, s5, s6, s7, s8, s9⟩⟩ := HF.out _ hSw; go_simp; try with_reducible rfl) ?_
  refine rP 7 hS ?_
  refine rL 8 [10] rfl hS (by intro w hSw; obtain ⟨s0, s1, s2, ⟨s3, s4, s5, s6, s7, s8, s9⟩⟩ := HF.out _ hSw; go_simp; try with_reducible rfl) ?_
  intro inv
  refine rO 9 inv fun K hK => ?_
  go_simp
  refine hK.out _ _ (fun _ => (hS.alloc hS.size _)) ?_
  clear hK K hS inv
  intro inv
  try simp only [Act.put, nrmA, nrmB, nrmC]
  have hxz : BoxV ((W1.alloc (.cells #[.string ⟨#[]⟩, .int .i64 0, .int .i64 0, .int .u8 0, .slice none 0 0, .slice none 0 0, .slice none 0 0] 61)).drew) W1.heap.size #[.string ⟨#[]⟩, .int .i64 0, .int .i64 0, .int .u8 0, .slice none 0 0, .slice none 0 0, .slice none 0 0] := (BoxV.new W1 _ _).below ((Below.refl (W1.heap.size + 1) _).drew) (Nat.lt_succ_self _)
  have hbz : Below W1.heap.size W1 ((W1.alloc (.cells #[.string ⟨#[]⟩, .int .i64 0, .int .i64 0, .int .u8 0, .slice none 0 0, .slice none 0 0, .slice none 0 0] 61)).drew) := ((Below.refl _ _).alloc (Nat.le_refl _) _).drew
  have HXZ := hide hxz
  clear hxz
  refine rT 10 inv fun K hK => ?_
  rw [if_pos (by rfl)]
  refine wp_store_mid _ _ _ rfl _ _ r.arr rfl rfl (HXZ.out.there (Nat.le_refl _)) info_device (by first | exact DevV.arr_one _ | simp [Value.oneCell']) ?_
  refine hK.out _ _ ?_
  clear hK K inv
  intro inv
  try simp only [Act.put, nrmA, nrmB, nrmC]
  refine rD ?_
  clear inv
  have hA : AtDev W g ⟨some ⟨db, od, none⟩, dn, dc, ds, lA, ln, lc, ls⟩ f o b M k i y p r W1.heap.size (((W1.alloc (.cells #[.string ⟨#[]⟩, .int .i64 0, .int .i64 0, .int .u8 0, .slice none 0 0, .slice none 0 0, .slice none 0 0] 61)).drew).setCells W1.heap.size 0 r.arr.toList) := by
    have hb2 := below_setCells (B := W1.heap.size) (Nat.le_refl _) r.arr.toList 0 _ hbz
    have h1 := HW1.out
    have hd := HXZ.out.all r.arr.toList rfl
    rw [Array.toArray_toList] at hd
    have hlt : W1.heap.size < (((W1.alloc (.cells #[.string ⟨#[]⟩, .int .i64 0, .int .i64 0, .int .u8 0, .slice none 0 0, .slice none 0 0, .slice none 0 0] 61)).drew).setCells W1.heap.size 0 r.arr.toList).heap.size := by
      have := (below_setCells (B := W1.heap.size) (Nat.le_refl _) r.arr.toList 0 ((W1.alloc (.cells #[.string ⟨#[]⟩, .int .i64 0, .int .i64 0, .int .u8 0, .slice none 0 0, .slice none 0 0, .slice none 0 0] 61)).drew) (Below.refl _ _)).size
      have e : ((W1.alloc (.cells #[.string ⟨#[]⟩, .int .i64 0, .int .i64 0, .int .u8 0, .slice none 0 0, .slice none 0 0, .slice none 0 0] 61)).drew).heap.size = W1.heap.size + 1 := by simp
      omega
    exact ⟨HMA.out, HBB.out _ hb2, (HQ.out _ _ hb2).1 0 _ _ rfl (by omega), (HQ.out _ _ hb2).1 1 _ _ rfl (by omega), (HQ.out _ _ hb2).1 2 _ _ rfl (by omega), (HQ.out _ _ hb2).1 3 _ _ rfl (by omega), hd, by omega, hlt⟩
  obtain ⟨G, hG⟩ : ∃ G, W1.heap.size = G := ⟨_, rfl⟩
  rw [hG] at hA ⊢
  clear hG hbz HXZ HF HQ HBB HMA HW1
  generalize World.setCells _ _ _ _ = w2 at *
  have HA := hide hA
  clear hA i1 i2 i3
  have k1 : w2.cell? ⟨W.heap.size + 1, 1, none⟩ = some (.int .i64 y) := HA.out.b1.1 1 _ rfl
  have k3 : w2.cell? ⟨G, 2, none⟩ = some (.int .i64 r.addr) := HA.out.bd.1 2 _ rfl
  obtain ⟨y0, y1, y2, y3⟩ : w2.cell? ⟨W.heap.size + 1 + 1, 0, none⟩ = some (.int .i64 p.src) ∧ w2.cell? ⟨W.heap.size + 1 + 1, 1, none⟩ = some (.int .i64 p.dst) ∧ w2.cell? ⟨W.heap.size + 1 + 1, 2, none⟩ = some (.int .i64 p.sport) ∧ w2.cell? ⟨W.heap.size + 1 + 1, 3, none⟩ = some (.int .i64 p.dport) := ⟨HA.out.b2.1 0 _ rfl, HA.out.b2.1 1 _ rfl, HA.out.b2.1 2 _ rfl, HA.out.b2.1 3 _ rfl⟩
  by_cases e1 : p.dst = r.addr
  case neg =>
    have HN2 := hide (HNF.out.trans (if_pos e1))
    have d1 : (p.dst != r.addr) = true := by simpa using e1
    clear HNF HLK HUI HBS e1
    go_wp2_with ((with_reducible show wpList _ _ _ (⟨none, .store 110 (.tmp 8) _, _, _, _, _⟩ :: _) _ _); refine wpList_store_mid rfl 110 (.tmp 8) (.tmp 66) rfl (W.heap.size + 1 + 1 + 1) 0 #[.int .i64 1, .int .i64 p.src, .int .i64 p.dst, .int .i64 p.sport, .int .i64 p.dport, .nilFunc] rfl rfl (HA.out.b3.there (Nat.le_refl _)) info_gone (by simp [Value.oneCell']) ?_)
    have hx7 := BoxV.all HA.out.b3 [.int .i64 1, .int .i64 p.src, .int .i64 p.dst, .int .i64 p.sport, .int .i64 p.dport, .nilFunc] rfl
    have hb7 := below_setCells (B := W.heap.size) (N := W.heap.size + 1 + 1 + 1) (by omega) [.int .i64 1, .int .i64 p.src, .int .i64 p.dst, .int .i64 p.sport, .int .i64 p.dport, .nilFunc] 0 _ HA.out.bl
    generalize World.setCells _ _ _ _ = w7 at *
    obtain ⟨z0, z1, z2, z3, z4, z5⟩ : w7.cell? ⟨W.heap.size + 1 + 1 + 1, 0, none⟩ = some (.int .i64 1) ∧ w7.cell? ⟨W.heap.size + 1 + 1 + 1, 1, none⟩ = some (.int .i64 p.src) ∧ w7.cell? ⟨W.heap.size + 1 + 1 + 1, 2, none⟩ = some (.int .i64 p.dst) ∧ w7.cell? ⟨W.heap.size + 1 + 1 + 1, 3, none⟩ = some (.int .i64 p.sport) ∧ w7.cell? ⟨W.heap.size + 1 + 1 + 1, 4, none⟩ = some (.int .i64 p.dport) ∧ w7.cell? ⟨W.heap.size + 1 + 1 + 1, 5, none⟩ = some (.nilFunc) :=
      ⟨hx7.1 0 _ rfl, hx7.1 1 _ rfl, hx7.1 2 _ rfl, hx7.1 3 _ rfl, hx7.1 4 _ rfl, hx7.1 5 _ rfl⟩
    refine bodyPost_ret (v := .tuple #[goneV 1 ⟨p.src, p.dst, p.sport, p.dport⟩ (.nilFunc), .int .i64 0]) (by simp [results, Try.f61, go_sem, z0, z1, z2, z3, z4, z5, goneV]) rfl ⟨_, by rw [HN2.out]; all_goals rfl, ?_, hb7⟩
    rw [HN2.out]
    exact .inl ⟨rfl, rfl⟩
  have HN1 := hide (HNF.out.trans (if_neg (by simpa using e1)))
  have d1 : (p.dst != r.addr) = false := by simpa using e1
  clear HNF e1
  go_wp2
  have hx3 := BoxV.new w2 #[.int .i64 p.src, .int .i64 p.dst, .int .i64 p.sport, .int .i64 p.dport] 38
  have ha3 := HA.out.alloc (.cells #[.int .i64 p.src, .int .i64 p.dst, .int .i64 p.sport, .int .i64 p.dport] 38)
  have hz3 : (w2.alloc (.cells #[.int .i64 p.src, .int .i64 p.dst, .int .i64 p.sport, .int .i64 p.dport] 38)).heap.size = w2.heap.size + 1 := by simp
  have hl3 := HA.out.lt
  clear k1 k3 y0 y1 y2 y3 d0 d1 HA
  generalize hH : w2.heap.size = H at *
  clear hH
  generalize World.alloc w2 _ = w3 at *
  have HA3 := hide (fun (w' : World) (hb : Below w3.heap.size w3 w') => ha3.below hb)
  have HO3 := hide (fun (w' : World) (hb : Below w3.heap.size w3 w') => hx3.below hb (by omega))
  have HL3 := hide (show G < H ∧ H < w3.heap.size from ⟨hl3, by omega⟩)
  clear ha3 hx3 hl3 hz3
  refine wp_region_E (fun w' => Below w3.heap.size w3 w') 13 (by kernel_rfl) ((Below.refl _ _).drew) (fun hS => ?_)
  refine rL 0 [13] rfl hS (by intro w hSw; have hx := HA3.out _ hSw; have t0 := hx.b0.1 0 _ rfl; have t1 := hx.b1.1 0 _ rfl; have t2 := hx.b2.1 0 _ rfl; have t5 := hx.b2.1 1 _ rfl; have t6 := hx.b2.1 2 _ rfl; have t7 := hx.b2.1 3 _ rfl; have t3 := hx.mem.c4; have t4 := HLK.out _ hx.mem; clear hx; go_simp; try with_reducible rfl) ?_
  refine rP 1 hS ?_
  refine rP 2 hS ?_
  refine rL 3 [13] rfl hS (by intro w hSw; have hx := HA3.out _ hSw; have t0 := hx.b0.1 0 _ rfl; have t1 := hx.b1.1 0 _ rfl; have t2 := hx.b2.1 0 _ rfl; have t5 := hx.b2.1 1 _ rfl; have t6 := hx.b2.1 2 _ rfl; have t7 := hx.b2.1 3 _ rfl; have t3 := hx.mem.c4; have t4 := HLK.out _ hx.mem; clear hx; go_simp; try with_reducible rfl) ?_
  refine rP 4 hS ?_
  refine rL 5 [13] rfl hS (by intro w hSw; have hx := HA3.out _ hSw; have t0 := hx.b0.1 0 _ rfl; have t1 := hx.b1.1 0 _ rfl; have t2 := hx.b2.1 0 _ rfl; have t5 := hx.b2.1 1 _ rfl; have t6 := hx.b2.1 2 _ rfl; have t7 := hx.b2.1 3 _ rfl; have t3 := hx.mem.c4; have t4 := HLK.out _ hx.mem; clear hx; go_simp; try with_reducible rfl) ?_
  refine rL 6 [13] rfl hS (by intro w hSw; have hx := HA3.out _ hSw; have t0 := hx.b0.1 0 _ rfl; have t1 := hx.b1.1 0 _ rfl; have t2 := hx.b2.1 0 _ rfl; have t5 := hx.b2.1 1 _ rfl; have t6 := hx.b2.1 2 _ rfl; have t7 := hx.b2.1 3 _ rfl; have t3 := hx.mem.c4; have t4 := HLK.out _ hx.mem; clear hx; go_simp; try with_reducible rfl) ?_
  refine rP 7 hS ?_
  refine rL 8 [13] rfl hS (by intro w hSw; have hx := HA3.out _ hSw; have t0 := hx.b0.1 0 _ rfl; have t1 := hx.b1.1 0 _ rfl; have t2 := hx.b2.1 0 _ rfl; have t5 := hx.b2.1 1 _ rfl; have t6 := hx.b2.1 2 _ rfl; have t7 := hx.b2.1 3 _ rfl; have t3 := hx.mem.c4; have t4 := HLK.out _ hx.mem; clear hx; go_simp; try with_reducible rfl) ?_
  refine rP 9 hS ?_
  refine rP 10 hS ?_
  refine rP 11 hS ?_
  intro inv
  refine rO 12 inv fun K hK => ?_
  go_simp
  refine hK.out _ _ (fun _ => (hS.alloc hS.size _)) ?_
  clear hK K hS inv
  intro inv
  try simp only [Act.put, nrmA, nrmB, nrmC]
  refine rT 13 inv fun K hK => ?_
  go_simp
  refine hK.out _ _ ?_
  clear hK K inv
  intro inv
  try simp only [Act.put, nrmA, nrmB, nrmC]
  refine rT 14 inv fun K hK => ?_
  go_simp
  refine hK.out _ _ ?_
  clear hK K inv
  intro inv
  try simp only [Act.put, nrmA, nrmB, nrmC]
  refine rD ?_
  clear inv
  have hb4 : Below w3.heap.size w3 ((w3.alloc (.cells #[.int .i64 u] 3)).drew) := ((Below.refl _ _).alloc (Nat.le_refl _) _).drew
  have ha4 := HA3.out _ hb4
  have ho4 := HO3.out _ hb4
  have hn4 : BoxV ((w3.alloc (.cells #[.int .i64 u] 3)).drew) w3.heap.size #[.int .i64 u] := (BoxV.new w3 _ _).below ((Below.refl (w3.heap.size + 1) _).drew) (Nat.lt_succ_self _)
  have hz4 : ((w3.alloc (.cells #[.int .i64 u] 3)).drew).heap.size = w3.heap.size + 1 := by simp
  have hl4 := HL3.out
  clear HA3 HO3 HL3 hb4
  generalize hN : w3.heap.size = N at *
  clear hN
  generalize World.drew (World.alloc w3 _) = w4 at *
  have HA4 := hide ha4
  have HO4 := hide ho4
  have HN4 := hide hn4
  have HL4 := hide (show G < H ∧ H < N ∧ N < w4.heap.size from ⟨hl4.1, hl4.2, by omega⟩)
  clear ha4 ho4 hn4 hz4 hl4
  cases tb
  case true =>
    have HN2 := hide (HN1.out.trans (if_pos rfl))
    clear HN1 HLK HBS
    obtain ⟨y0, y1, y2, y3⟩ : w4.cell? ⟨W.heap.size + 1 + 1, 0, none⟩ = some (.int .i64 p.src) ∧ w4.cell? ⟨W.heap.size + 1 + 1, 1, none⟩ = some (.int .i64 p.dst) ∧ w4.cell? ⟨W.heap.size + 1 + 1, 2, none⟩ = some (.int .i64 p.sport) ∧ w4.cell? ⟨W.heap.size + 1 + 1, 3, none⟩ = some (.int .i64 p.dport) := ⟨HA4.out.b2.1 0 _ rfl, HA4.out.b2.1 1 _ rfl, HA4.out.b2.1 2 _ rfl, HA4.out.b2.1 3 _ rfl⟩
    have kf := HA4.out.b2.2
    have kn : w4.cell? ⟨N, 0, none⟩ = some (.int .i64 u) := HN4.out.1 0 _ rfl
    have hgl := HA4.out.hg
    have hll := HL4.out
    have n1 : N ≠ W.heap.size + 1 + 1 := by omega
    have n2 : W.heap.size + 1 + 1 ≠ N := by omega
    have HFR := hide (fun (K : Nat) (vs : Array Value) (h : BoxV w4 K vs) (h1 : W.heap.size + 1 + 1 ≠ K) (h2 : N ≠ K) => show BoxV (w4.setCell ⟨W.heap.size + 1 + 1, 1, none⟩ (.int .i64 u)) K vs from h.far _ _ h1)
    have HBX := hide (show Below W.heap.size W (w4.setCell ⟨W.heap.size + 1 + 1, 1, none⟩ (.int .i64 u)) from HA4.out.bl.setCell (by show W.heap.size ≤ W.heap.size + 1 + 1; omega) _)
    have HB0 := hide (HFR.out _ _ HA4.out.b0 (by omega) (by omega))
    have HB1 := hide (HFR.out _ _ HA4.out.b1 (by omega) (by omega))
    have HB3 := hide (HFR.out _ _ HA4.out.b3 (by omega) (by omega))
    have HBH := hide (HFR.out _ _ HO4.out (by omega) (by omega))
    have HBN := hide (show BoxV (w4.setCell ⟨W.heap.size + 1 + 1, 1, none⟩ (.int .i64 u)) N #[.int .i64 u] from HN4.out.far _ _ n2)
    have hsz5 : (w4.setCell ⟨W.heap.size + 1 + 1, 1, none⟩ (.int .i64 u)).heap.size = w4.heap.size := by simp [World.setCell]
    have HL5 := hide (show W.heap.size + 1 + 1 + 1 < H ∧ H < N ∧ N < (w4.setCell ⟨W.heap.size + 1 + 1, 1, none⟩ (.int .i64 u)).heap.size from by rw [hsz5]; omega)
    clear hgl hll hsz5 HFR
    go_wp2_with ((with_reducible show wpList _ _ _ (⟨none, .store 110 (.tmp 8) _, _, _, _, _⟩ :: _) _ _); refine wpList_store_mid rfl 110 (.tmp 8) (.tmp 101) rfl (W.heap.size + 1 + 1 + 1) 0 #[.int .i64 1, .int .i64 p.src, .int .i64 u, .int .i64 p.sport, .int .i64 p.dport, .func (.func 74) #[] #[.pointer (some ⟨N, 0, none⟩), .pointer (some ⟨W.heap.size, 0, none⟩), .pointer (some ⟨W.heap.size + 1, 0, none⟩), .pointer (some ⟨H, 0, none⟩)]] rfl rfl (HB3.out.there (Nat.le_refl _)) info_gone (by simp [Value.oneCell']) ?_)
    have hx7 := BoxV.all HB3.out [.int .i64 1, .int .i64 p.src, .int .i64 u, .int .i64 p.sport, .int .i64 p.dport, .func (.func 74) #[] #[.pointer (some ⟨N, 0, none⟩), .pointer (some ⟨W.heap.size, 0, none⟩), .pointer (some ⟨W.heap.size + 1, 0, none⟩), .pointer (some ⟨H, 0, none⟩)]] rfl
    have hb7 := below_setCells (B := W.heap.size) (N := W.heap.size + 1 + 1 + 1) (by omega) [.int .i64 1, .int .i64 p.src, .int .i64 u, .int .i64 p.sport, .int .i64 p.dport, .func (.func 74) #[] #[.pointer (some ⟨N, 0, none⟩), .pointer (some ⟨W.heap.size, 0, none⟩), .pointer (some ⟨W.heap.size + 1, 0, none⟩), .pointer (some ⟨H, 0, none⟩)]] 0 _ HBX.out
    have HKN := hide (show ∀ w', Same W.heap.size (w4.setCell ⟨W.heap.size + 1 + 1, 1, none⟩ (.int .i64 u)).heap.size ((w4.setCell ⟨W.heap.size + 1 + 1, 1, none⟩ (.int .i64 u)).setCells (W.heap.size + 1 + 1 + 1) 0 [.int .i64 1, .int .i64 p.src, .int .i64 u, .int .i64 p.sport, .int .i64 p.dport, .func (.func 74) #[] #[.pointer (some ⟨N, 0, none⟩), .pointer (some ⟨W.heap.size, 0, none⟩), .pointer (some ⟨W.heap.size + 1, 0, none⟩), .pointer (some ⟨H, 0, none⟩)]]) w' → BoxV w' N #[.int .i64 u] ∧ BoxV w' W.heap.size #[.pointer (some ⟨g, 0, none⟩)] ∧ BoxV w' (W.heap.size + 1) #[.int .i64 (i : Int), .int .i64 y] ∧ BoxV w' H #[.int .i64 p.src, .int .i64 p.dst, .int .i64 p.sport, .int .i64 p.dport] from fun w' hb => by
      have h6 := HL5.out
      exact ⟨(HBN.out.apart _ _ (by omega)).sameL hb (by omega) (by omega), (HB0.out.apart _ _ (by omega)).sameL hb (by omega) (by omega), (HB1.out.apart _ _ (by omega)).sameL hb (by omega) (by omega), (HBH.out.apart _ _ (by omega)).sameL hb (by omega) (by omega)⟩)
    have HSZ := hide (show (w4.setCell ⟨W.heap.size + 1 + 1, 1, none⟩ (.int .i64 u)).heap.size ≤ ((w4.setCell ⟨W.heap.size + 1 + 1, 1, none⟩ (.int .i64 u)).setCells (W.heap.size + 1 + 1 + 1) 0 [.int .i64 1, .int .i64 p.src, .int .i64 u, .int .i64 p.sport, .int .i64 p.dport, .func (.func 74) #[] #[.pointer (some ⟨N, 0, none⟩), .pointer (some ⟨W.heap.size, 0, none⟩), .pointer (some ⟨W.heap.size + 1, 0, none⟩), .pointer (some ⟨H, 0, none⟩)]]).heap.size from (below_setCells (B := 0) (N := W.heap.size + 1 + 1 + 1) (by omega) [.int .i64 1, .int .i64 p.src, .int .i64 u, .int .i64 p.sport, .int .i64 p.dport, .func (.func 74) #[] #[.pointer (some ⟨N, 0, none⟩), .pointer (some ⟨W.heap.size, 0, none⟩), .pointer (some ⟨W.heap.size + 1, 0, none⟩), .pointer (some ⟨H, 0, none⟩)]] 0 (w4.setCell ⟨W.heap.size + 1 + 1, 1, none⟩ (.int .i64 u)) (Below.refl _ _)).size)
    clear y0 y1 y2 y3 kf kn n1 n2
    generalize World.setCells _ _ _ _ = w7 at *
    obtain ⟨z0, z1, z2, z3, z4, z5⟩ : w7.cell? ⟨W.heap.size + 1 + 1 + 1, 0, none⟩ = some (.int .i64 1) ∧ w7.cell? ⟨W.heap.size + 1 + 1 + 1, 1, none⟩ = some (.int .i64 p.src) ∧ w7.cell? ⟨W.heap.size + 1 + 1 + 1, 2, none⟩ = some (.int .i64 u) ∧ w7.cell? ⟨W.heap.size + 1 + 1 + 1, 3, none⟩ = some (.int .i64 p.sport) ∧ w7.cell? ⟨W.heap.size + 1 + 1 + 1, 4, none⟩ = some (.int .i64 p.dport) ∧ w7.cell? ⟨W.heap.size + 1 + 1 + 1, 5, none⟩ = some (.func (.func 74) #[] #[.pointer (some ⟨N, 0, none⟩), .pointer (some ⟨W.heap.size, 0, none⟩), .pointer (some ⟨W.heap.size + 1, 0, none⟩), .pointer (some ⟨H, 0, none⟩)]) :=
      ⟨hx7.1 0 _ rfl, hx7.1 1 _ rfl, hx7.1 2 _ rfl, hx7.1 3 _ rfl, hx7.1 4 _ rfl, hx7.1 5 _ rfl⟩
    refine bodyPost_ret (v := .tuple #[goneV 1 ⟨p.src, u, p.sport, p.dport⟩ (.func (.func 74) #[] #[.pointer (some ⟨N, 0, none⟩), .pointer (some ⟨W.heap.size, 0, none⟩), .pointer (some ⟨W.heap.size + 1, 0, none⟩), .pointer (some ⟨H, 0, none⟩)]), .int .i64 0]) (by simp [results, Try.f61, go_sem, z0, z1, z2, z3, z4, z5, goneV]) rfl ⟨_, by rw [HN2.out]; all_goals rfl, ?_, hb7⟩
    rw [HN2.out]
    refine .inr ⟨_, _, rfl, bal1_enters, fun M' k' w' hb hM' hk' => ?_⟩
    obtain ⟨q0, q1, q2, q3⟩ := HKN.out w' (hb.mono HSZ.out)
    exact bal1_walk g _ f o b M' k' N W.heap.size (W.heap.size + 1) H (i : Int) y u p w' hM' hk' q0 q1 q2 q3 HIA.out hp HUI.out
  have HN3 := hide (HN1.out.trans (if_neg (by simp)))
  clear HN1 HLK
  have kl : w4.cell? ⟨G, 4, none⟩ = some (.slice r.bA r.bn r.bc) := HA4.out.bd.1 4 _ rfl
  have HBW := hide (HBS.out w4 HA4.out.bl)
  clear HBS
  by_cases c1 : ch < 0
  · have HN2 := hide (show NF = (.zero, 1) from by rw [HN3.out, if_pos c1])
    clear HN3 HBW
    go_wp2_with ((with_reducible show wpList _ _ _ (⟨none, .store 110 (.tmp 8) _, _, _, _, _⟩ :: _) _ _); refine wpList_store_mid rfl 110 (.tmp 8) (.tmp 91) rfl (W.heap.size + 1 + 1 + 1) 0 #[.int .i64 0, .int .i64 0, .int .i64 0, .int .i64 0, .int .i64 0, .nilFunc] rfl rfl (HA4.out.b3.there (Nat.le_refl _)) info_gone (by simp [Value.oneCell']) ?_)
    have hx7 := BoxV.all HA4.out.b3 [.int .i64 0, .int .i64 0, .int .i64 0, .int .i64 0, .int .i64 0, .nilFunc] rfl
    have hb7 := below_setCells (B := W.heap.size) (N := W.heap.size + 1 + 1 + 1) (by omega) [.int .i64 0, .int .i64 0, .int .i64 0, .int .i64 0, .int .i64 0, .nilFunc] 0 _ HA4.out.bl
    generalize World.setCells _ _ _ _ = w7 at *
    obtain ⟨z0, z1, z2, z3, z4, z5⟩ : w7.cell? ⟨W.heap.size + 1 + 1 + 1, 0, none⟩ = some (.int .i64 0) ∧ w7.cell? ⟨W.heap.size + 1 + 1 + 1, 1, none⟩ = some (.int .i64 0) ∧ w7.cell? ⟨W.heap.size + 1 + 1 + 1, 2, none⟩ = some (.int .i64 0) ∧ w7.cell? ⟨W.heap.size + 1 + 1 + 1, 3, none⟩ = some (.int .i64 0) ∧ w7.cell? ⟨W.heap.size + 1 + 1 + 1, 4, none⟩ = some (.int .i64 0) ∧ w7.cell? ⟨W.heap.size + 1 + 1 + 1, 5, none⟩ = some (.nilFunc) :=
      ⟨hx7.1 0 _ rfl, hx7.1 1 _ rfl, hx7.1 2 _ rfl, hx7.1 3 _ rfl, hx7.1 4 _ rfl, hx7.1 5 _ rfl⟩
    refine bodyPost_ret (v := .tuple #[goneV 0 ⟨0, 0, 0, 0⟩ (.nilFunc), .int .i64 1]) (by simp [results, Try.f61, go_sem, z0, z1, z2, z3, z4, z5, goneV]) rfl ⟨_, by rw [HN2.out]; all_goals rfl, ?_, hb7⟩
    rw [HN2.out]
    exact .inl ⟨rfl, rfl⟩
  obtain ⟨c, rfl⟩ : ∃ c : Nat, ch = (c : Int) := ⟨ch.toNat, by omega⟩
  have HN4x := hide (show NF = (match (motive := Option Int → GoneS × Int) r.bs[c]? with
        | some b => (⟨1, ⟨p.src, b, p.sport, p.dport⟩, .back (i, p) b⟩, 0)
        | none => (.zero, 1)) from by rw [HN3.out, if_neg c1]; rfl)
  have hbm : r.bn ≤ 9223372036854775807 := by have := hbc.1; have := hbc.2; unfold maxLen at this; omega
  clear HN3 c1 hbc
  obtain ⟨bn, hbn⟩ : ∃ bn, r.bn = bn := ⟨_, rfl⟩
  rw [hbn] at kl hbm hbl
  have HBW2 := hide (show IntsAt w4 W.heap.size r.bA bn r.bs ∨ True from .inr trivial)
  have hbw := HBW.out
  rw [hbn] at hbw
  have HBW := hide hbw
  clear hbw HBW2
  by_cases c2 : c < bn
  · obtain ⟨x, hx⟩ : ∃ x, r.bs[c]? = some x := ⟨_, List.getElem?_eq_getElem (by omega)⟩
    obtain ⟨bb, oo, hbA, _, hcell⟩ := HBW.out.2.2 (by omega)
    have kx := hcell c x hx
    have hxi : i64ok x := HBW.out.2.1 x (List.mem_of_getElem? hx)
    have HXI := hide hxi
    have HN2 := hide (show NF = (⟨1, ⟨p.src, x, p.sport, p.dport⟩, .back (i, p) x⟩, 0) from by rw [HN4x.out, hx])
    rw [hbA] at kl
    have j1 : (0 : Int) ≤ (c : Int) := by omega
    have j2 : (c : Int) < (bn : Int) := by omega
    clear HN4x HBW hcell hx hxi hbA hbn hbl
    obtain ⟨y0, y1, y2, y3⟩ : w4.cell? ⟨W.heap.size + 1 + 1, 0, none⟩ = some (.int .i64 p.src) ∧ w4.cell? ⟨W.heap.size + 1 + 1, 1, none⟩ = some (.int .i64 p.dst) ∧ w4.cell? ⟨W.heap.size + 1 + 1, 2, none⟩ = some (.int .i64 p.sport) ∧ w4.cell? ⟨W.heap.size + 1 + 1, 3, none⟩ = some (.int .i64 p.dport) := ⟨HA4.out.b2.1 0 _ rfl, HA4.out.b2.1 1 _ rfl, HA4.out.b2.1 2 _ rfl, HA4.out.b2.1 3 _ rfl⟩
    have kf := HA4.out.b2.2
    have kn : w4.cell? ⟨N, 0, none⟩ = some (.int .i64 u) := HN4.out.1 0 _ rfl
    have knf := HN4.out.2
    have hgl := HA4.out.hg
    have hll := HL4.out
    have n1 : N ≠ W.heap.size + 1 + 1 := by omega
    have n2 : W.heap.size + 1 + 1 ≠ N := by omega
    have HFR := hide (fun (K : Nat) (vs : Array Value) (h : BoxV w4 K vs) (h1 : W.heap.size + 1 + 1 ≠ K) (h2 : N ≠ K) => show BoxV ((w4.setCell ⟨N, 0, none⟩ (.int .i64 x)).setCell ⟨W.heap.size + 1 + 1, 1, none⟩ (.int .i64 x)) K vs from (h.far _ _ h2).far _ _ h1)
    have HBX := hide (show Below W.heap.size W ((w4.setCell ⟨N, 0, none⟩ (.int .i64 x)).setCell ⟨W.heap.size + 1 + 1, 1, none⟩ (.int .i64 x)) from (HA4.out.bl.setCell (by show W.heap.size ≤ N; omega) _).setCell (by show W.heap.size ≤ W.heap.size + 1 + 1; omega) _)
    have HB0 := hide (HFR.out _ _ HA4.out.b0 (by omega) (by omega))
    have HB1 := hide (HFR.out _ _ HA4.out.b1 (by omega) (by omega))
    have HB3 := hide (HFR.out _ _ HA4.out.b3 (by omega) (by omega))
    have HBH := hide (HFR.out _ _ HO4.out (by omega) (by omega))
    have HBN := hide (show BoxV ((w4.setCell ⟨N, 0, none⟩ (.int .i64 x)).setCell ⟨W.heap.size + 1 + 1, 1, none⟩ (.int .i64 x)) N #[.int .i64 x] from BoxV.far (vs := #[.int .i64 x]) (HN4.out.set 0 (.int .i64 x)) _ _ n2)
    have hsz5 : ((w4.setCell ⟨N, 0, none⟩ (.int .i64 x)).setCell ⟨W.heap.size + 1 + 1, 1, none⟩ (.int .i64 x)).heap.size = w4.heap.size := by simp [World.setCell]
    have HL5 := hide (show W.heap.size + 1 + 1 + 1 < H ∧ H < N ∧ N < ((w4.setCell ⟨N, 0, none⟩ (.int .i64 x)).setCell ⟨W.heap.size + 1 + 1, 1, none⟩ (.int .i64 x)).heap.size from by rw [hsz5]; omega)
    clear hgl hll hsz5 HFR
    go_wp2_with ((with_reducible show wpList _ _ _ (⟨none, .store 110 (.tmp 8) _, _, _, _, _⟩ :: _) _ _); refine wpList_store_mid rfl 110 (.tmp 8) (.tmp 101) rfl (W.heap.size + 1 + 1 + 1) 0 #[.int .i64 1, .int .i64 p.src, .int .i64 x, .int .i64 p.sport, .int .i64 p.dport, .func (.func 74) #[] #[.pointer (some ⟨N, 0, none⟩), .pointer (some ⟨W.heap.size, 0, none⟩), .pointer (some ⟨W.heap.size + 1, 0, none⟩), .pointer (some ⟨H, 0, none⟩)]] rfl rfl (HB3.out.there (Nat.le_refl _)) info_gone (by simp [Value.oneCell']) ?_)
    have hx7 := BoxV.all HB3.out [.int .i64 1, .int .i64 p.src, .int .i64 x, .int .i64 p.sport, .int .i64 p.dport, .func (.func 74) #[] #[.pointer (some ⟨N, 0, none⟩), .pointer (some ⟨W.heap.size, 0, none⟩), .pointer (some ⟨W.heap.size + 1, 0, none⟩), .pointer (some ⟨H, 0, none⟩)]] rfl
    have hb7 := below_setCells (B := W.heap.size) (N := W.heap.size + 1 + 1 + 1) (by omega) [.int .i64 1, .int .i64 p.src, .int .i64 x, .int .i64 p.sport, .int .i64 p.dport, .func (.func 74) #[] #[.pointer (some ⟨N, 0, none⟩), .pointer (some ⟨W.heap.size, 0, none⟩), .pointer (some ⟨W.heap.size + 1, 0, none⟩), .pointer (some ⟨H, 0, none⟩)]] 0 _ HBX.out
    have HKN := hide (show ∀ w', Same W.heap.size ((w4.setCell ⟨N, 0, none⟩ (.int .i64 x)).setCell ⟨W.heap.size + 1 + 1, 1, none⟩ (.int .i64 x)).heap.size (((w4.setCell ⟨N, 0, none⟩ (.int .i64 x)).setCell ⟨W.heap.size + 1 + 1, 1, none⟩ (.int .i64 x)).setCells (W.heap.size + 1 + 1 + 1) 0 [.int .i64 1, .int .i64 p.src, .int .i64 x, .int .i64 p.sport, .int .i64 p.dport, .func (.func 74) #[] #[.pointer (some ⟨N, 0, none⟩), .pointer (some ⟨W.heap.size, 0, none⟩), .pointer (some ⟨W.heap.size + 1, 0, none⟩), .pointer (some ⟨H, 0, none⟩)]]) w' → BoxV w' N #[.int .i64 x] ∧ BoxV w' W.heap.size #[.pointer (some ⟨g, 0, none⟩)] ∧ BoxV w' (W.heap.size + 1) #[.int .i64 (i : Int), .int .i64 y] ∧ BoxV w' H #[.int .i64 p.src, .int .i64 p.dst, .int .i64 p.sport, .int .i64 p.dport] from fun w' hb => by
      have h6 := HL5.out
      exact ⟨(HBN.out.apart _ _ (by omega)).sameL hb (by omega) (by omega), (HB0.out.apart _ _ (by omega)).sameL hb (by omega) (by omega), (HB1.out.apart _ _ (by omega)).sameL hb (by omega) (by omega), (HBH.out.apart _ _ (by omega)).sameL hb (by omega) (by omega)⟩)
    have HSZ := hide (show ((w4.setCell ⟨N, 0, none⟩ (.int .i64 x)).setCell ⟨W.heap.size + 1 + 1, 1, none⟩ (.int .i64 x)).heap.size ≤ (((w4.setCell ⟨N, 0, none⟩ (.int .i64 x)).setCell ⟨W.heap.size + 1 + 1, 1, none⟩ (.int .i64 x)).setCells (W.heap.size + 1 + 1 + 1) 0 [.int .i64 1, .int .i64 p.src, .int .i64 x, .int .i64 p.sport, .int .i64 p.dport, .func (.func 74) #[] #[.pointer (some ⟨N, 0, none⟩), .pointer (some ⟨W.heap.size, 0, none⟩), .pointer (some ⟨W.heap.size + 1, 0, none⟩), .pointer (some ⟨H, 0, none⟩)]]).heap.size from (below_setCells (B := 0) (N := W.heap.size + 1 + 1 + 1) (by omega) [.int .i64 1, .int .i64 p.src, .int .i64 x, .int .i64 p.sport, .int .i64 p.dport, .func (.func 74) #[] #[.pointer (some ⟨N, 0, none⟩), .pointer (some ⟨W.heap.size, 0, none⟩), .pointer (some ⟨W.heap.size + 1, 0, none⟩), .pointer (some ⟨H, 0, none⟩)]] 0 ((w4.setCell ⟨N, 0, none⟩ (.int .i64 x)).setCell ⟨W.heap.size + 1 + 1, 1, none⟩ (.int .i64 x)) (Below.refl _ _)).size)
    clear y0 y1 y2 y3 kf kn n1 n2
    generalize World.setCells _ _ _ _ = w7 at *
    obtain ⟨z0, z1, z2, z3, z4, z5⟩ : w7.cell? ⟨W.heap.size + 1 + 1 + 1, 0, none⟩ = some (.int .i64 1) ∧ w7.cell? ⟨W.heap.size + 1 + 1 + 1, 1, none⟩ = some (.int .i64 p.src) ∧ w7.cell? ⟨W.heap.size + 1 + 1 + 1, 2, none⟩ = some (.int .i64 x) ∧ w7.cell? ⟨W.heap.size + 1 + 1 + 1, 3, none⟩ = some (.int .i64 p.sport) ∧ w7.cell? ⟨W.heap.size + 1 + 1 + 1, 4, none⟩ = some (.int .i64 p.dport) ∧ w7.cell? ⟨W.heap.size + 1 + 1 + 1, 5, none⟩ = some (.func (.func 74) #[] #[.pointer (some ⟨N, 0, none⟩), .pointer (some ⟨W.heap.size, 0, none⟩), .pointer (some ⟨W.heap.size + 1, 0, none⟩), .pointer (some ⟨H, 0, none⟩)]) :=
      ⟨hx7.1 0 _ rfl, hx7.1 1 _ rfl, hx7.1 2 _ rfl, hx7.1 3 _ rfl, hx7.1 4 _ rfl, hx7.1 5 _ rfl⟩
    refine bodyPost_ret (v := .tuple #[goneV 1 ⟨p.src, x, p.sport, p.dport⟩ (.func (.func 74) #[] #[.pointer (some ⟨N, 0, none⟩), .pointer (some ⟨W.heap.size, 0, none⟩), .pointer (some ⟨W.heap.size + 1, 0, none⟩), .pointer (some ⟨H, 0, none⟩)]), .int .i64 0]) (by simp [results, Try.f61, go_sem, z0, z1, z2, z3, z4, z5, goneV]) rfl ⟨_, by rw [HN2.out]; all_goals rfl, ?_, hb7⟩
    rw [HN2.out]
    refine .inr ⟨_, _, rfl, bal1_enters, fun M' k' w' hb hM' hk' => ?_⟩
    obtain ⟨q0, q1, q2, q3⟩ := HKN.out w' (hb.mono HSZ.out)
    exact bal1_walk g _ f o b M' k' N W.heap.size (W.heap.size + 1) H (i : Int) y x p w' hM' hk' q0 q1 q2 q3 HIA.out hp HXI.out
  · have HN2 := hide (show NF = (.zero, 1) from by rw [HN4x.out, List.getElem?_eq_none (by omega)])
    have c3 : bn ≤ c := by omega
    clear HN4x HBW c2 hbn
    go_wp2_with ((with_reducible show wpList _ _ _ (⟨none, .store 110 (.tmp 8) _, _, _, _, _⟩ :: _) _ _); refine wpList_store_mid rfl 110 (.tmp 8) (.tmp 91) rfl (W.heap.size + 1 + 1 + 1) 0 #[.int .i64 0, .int .i64 0, .int .i64 0, .int .i64 0, .int .i64 0, .nilFunc] rfl rfl (HA4.out.b3.there (Nat.le_refl _)) info_gone (by simp [Value.oneCell']) ?_)
    have hx7 := BoxV.all HA4.out.b3 [.int .i64 0, .int .i64 0, .int .i64 0, .int .i64 0, .int .i64 0, .nilFunc] rfl
    have hb7 := below_setCells (B := W.heap.size) (N := W.heap.size + 1 + 1 + 1) (by omega) [.int .i64 0, .int .i64 0, .int .i64 0, .int .i64 0, .int .i64 0, .nilFunc] 0 _ HA4.out.bl
    generalize World.setCells _ _ _ _ = w7 at *
    obtain ⟨z0, z1, z2, z3, z4, z5⟩ : w7.cell? ⟨W.heap.size + 1 + 1 + 1, 0, none⟩ = some (.int .i64 0) ∧ w7.cell? ⟨W.heap.size + 1 + 1 + 1, 1, none⟩ = some (.int .i64 0) ∧ w7.cell? ⟨W.heap.size + 1 + 1 + 1, 2, none⟩ = some (.int .i64 0) ∧ w7.cell? ⟨W.heap.size + 1 + 1 + 1, 3, none⟩ = some (.int .i64 0) ∧ w7.cell? ⟨W.heap.size + 1 + 1 + 1, 4, none⟩ = some (.int .i64 0) ∧ w7.cell? ⟨W.heap.size + 1 + 1 + 1, 5, none⟩ = some (.nilFunc) :=
      ⟨hx7.1 0 _ rfl, hx7.1 1 _ rfl, hx7.1 2 _ rfl, hx7.1 3 _ rfl, hx7.1 4 _ rfl, hx7.1 5 _ rfl⟩
    refine bodyPost_ret (v := .tuple #[goneV 0 ⟨0, 0, 0, 0⟩ (.nilFunc), .int .i64 1]) (by simp [results, Try.f61, go_sem, z0, z1, z2, z3, z4, z5, goneV]) rfl ⟨_, by rw [HN2.out]; all_goals rfl, ?_, hb7⟩
    rw [HN2.out]
    exact .inl ⟨rfl, rfl⟩
end Go.Proofs.Ytifkacnoiocebaa
