/- A part of the proof: StepDrop, LawFire, LawFB, MindF, LawSet, Arr, Opens. -/
import Derived.Test.YtifkacnoiocebaaNw16
set_option linter.unusedVariables false
set_option linter.unusedSimpArgs false
set_option maxRecDepth 100000
set_option maxHeartbeats 8000000
namespace Go.Proofs.Ytifkacnoiocebaa
open Go.Maps Go.RowKit
section
variable {w w' : World} {g : Nat} {n : NetV} {f o b : Nat} {M : MemS} {k : Nat}
theorem MemAt.cutF (h : MemAt w g n f o b M k) {a : OfK} (r1 : MapIs Try.prog 115 ofVal ofDom w' f (cutM (flowsV M) a)) (r2 : w.mapTurned w' f) : MemAt w' g n f o b (M.drop (.flow a)) k ∧ Near (Is3 f o b) w.heap.size w w' := by
  rw [flowsV_drop] at r1
  have st := StayOn.of_turned r2
  refine ⟨⟨st _ _ trivial h.c0, st _ _ trivial h.c1, st _ _ trivial h.c2, st _ _ trivial h.c3, st _ _ trivial h.c4, ?_, r1, h.mo.turned r2 h.nfo.symm, h.mb.turned r2 h.nfb.symm, h.nfo, h.nfb, h.nob, h.lf.imp fun L x => ⟨x.1, fun y hy => x.2 y ?_⟩, h.lo, h.lb, h.oo, h.ob⟩, Near.of_turned r2 (.inl rfl)⟩
  · exact h.net.stay st (fun _ _ => trivial) (fun _ _ => trivial) (fun _ _ => ⟨fun _ _ => trivial, fun _ _ => trivial, fun _ _ => trivial⟩) r2.grown.size
  · simp only [MemS.drop] at hy
    by_cases e : y = a
    · rw [if_pos e] at hy; cases hy
    · rwa [if_neg e] at hy
theorem MemAt.cutO (h : MemAt w g n f o b M k) {a : PoK} (r1 : MapIs Try.prog 118 poVal poDom w' o (cutM (ownersV M) a)) (r2 : w.mapTurned w' o) : MemAt w' g n f o b (M.drop (.owner a)) k ∧ Near (Is3 f o b) w.heap.size w w' := by
  rw [ownersV_drop] at r1
  have st := StayOn.of_turned r2
  have hd : ∀ y u, (M.drop (.owner a)).O y = some u → M.O y = some u := fun y u hy => by
    simp only [MemS.drop] at hy
    by_cases e : y = a
    · rw [if_pos e] at hy; cases hy
    · rwa [if_neg e] at hy
  refine ⟨⟨st _ _ trivial h.c0, st _ _ trivial h.c1, st _ _ trivial h.c2, st _ _ trivial h.c3, st _ _ trivial h.c4, ?_, h.mf.turned r2 h.nfo, r1, h.mb.turned r2 h.nob.symm, h.nfo, h.nfb, h.nob, h.lf, h.lo.imp fun L x => ⟨x.1, fun y hy => x.2 y ?_⟩, h.lb, fun y v hy => h.oo y v (hd y v hy), h.ob⟩, Near.of_turned r2 (.inr (.inl rfl))⟩
  · exact h.net.stay st (fun _ _ => trivial) (fun _ _ => trivial) (fun _ _ => ⟨fun _ _ => trivial, fun _ _ => trivial, fun _ _ => trivial⟩) r2.grown.size
  · obtain ⟨u, hu⟩ := Option.isSome_iff_exists.1 hy
    rw [hd y u hu]; rfl
theorem MemAt.cutB (h : MemAt w g n f o b M k) {a : OfK} (r1 : MapIs Try.prog 115 ofVal ofDom w' b (cutM (backsV M) a)) (r2 : w.mapTurned w' b) : MemAt w' g n f o b (M.drop (.back a)) k ∧ Near (Is3 f o b) w.heap.size w w' := by
  rw [backsV_drop] at r1
  have st := StayOn.of_turned r2
  have hd : ∀ y u, (M.drop (.back a)).B y = some u → M.B y = some u := fun y u hy => by
    simp only [MemS.drop] at hy
    by_cases e : y = a
    · rw [if_pos e] at hy; cases hy
    · rwa [if_neg e] at hy
  refine ⟨⟨st _ _ trivial h.c0, st _ _ trivial h.c1, st _ _ trivial h.c2, st _ _ trivial h.c3, st _ _ trivial h.c4, ?_, h.mf.turned r2 h.nfb, h.mo.turned r2 h.nob, r1, h.nfo, h.nfb, h.nob, h.lf, h.lo, h.lb.imp fun L x => ⟨x.1, fun y hy => x.2 y ?_⟩, h.oo, fun y v hy => h.ob y v (hd y v hy)⟩, Near.of_turned r2 (.inr (.inr rfl))⟩
  · exact h.net.stay st (fun _ _ => trivial) (fun _ _ => trivial) (fun _ _ => ⟨fun _ _ => trivial, fun _ _ => trivial, fun _ _ => trivial⟩) r2.grown.size
  · obtain ⟨u, hu⟩ := Option.isSome_iff_exists.1 hy
    rw [hd y u hu]; rfl
theorem MemAt.lookF2 (h : MemAt w g n f o b M k) (a : OfK) (ha : ofDom a) : (Instr.lookup 97 (.map (some f)) (ofVal a) true).run Try.prog w = .ok (.tuple #[.bool (M.F a), .bool (M.F a)]) w := by
  have := (h.mf.lookA ofKeys Try.underlying97 (z := .bool false) (by kernel_rfl) ha).1
  rw [this]
  simp only [flowsV]
  cases M.F a <;> rfl
end
theorem dropF_same {M : MemS} {a : OfK} (h : M.F a = false) : M.drop (.flow a) = M := by
  cases M with
  | mk F O B =>
    simp only [MemS.drop]
    congr 1
    funext x
    by_cases e : x = a
    · rw [if_pos e, e]; exact h.symm
    · rw [if_neg e]
theorem dropO_same {M : MemS} {a : PoK} (h : M.O a = none) : M.drop (.owner a) = M := by
  cases M with
  | mk F O B =>
    simp only [MemS.drop]
    congr 1
    funext x
    by_cases e : x = a
    · rw [if_pos e, e]; exact h.symm
    · rw [if_neg e]
theorem dropB_same {M : MemS} {a : OfK} (h : M.B a = none) : M.drop (.back a) = M := by
  cases M with
  | mk F O B =>
    simp only [MemS.drop]
    congr 1
    funext x
    by_cases e : x = a
    · rw [if_pos e, e]; exact h.symm
    · rw [if_neg e]
theorem dropF_walk (g : Nat) (n : NetV) (f o b : Nat) (M : MemS) (k : Nat) (i : Int) (p : P4) (W : World) (hM : MemAt W g n f o b M k) (hi : i64ok i) (hp : p.ok) :
    Calls Try.prog 45 #[.map (some f), .agg #[.int .i64 i, .int .i64 p.src, .int .i64 p.dst, .int .i64 p.sport, .int .i64 p.dport]] W fun e W' => e = .returned (.int .i64 (if M.F (i, p) = true then 0 else 7)) ∧ MemAt W' g n f o b (M.drop (.flow (i, p))) k ∧ Near (Is3 f o b) W.heap.size W W' := by
  have hd : ofDom (i, p) := ⟨hi, hp⟩
  have hb : Below W.heap.size W (W.alloc (.cells #[.int .i64 i, .int .i64 p.src, .int .i64 p.dst, .int .i64 p.sport, .int .i64 p.dport] 115)) := (Below.refl _ _).alloc (Nat.le_refl _) _
  have HM1 := hide (hM.below hb)
  have hlk := HM1.out.lookF2 (i, p) hd
  simp only [ofVal] at hlk
  have HB := hide hb
  clear hM hb
  cases hf : M.F (i, p)
  case false =>
    rw [hf] at hlk
    skip
    go_enter Try.func45, Try.ntmps45
    go_wp2
    go_ret
    refine ⟨ret_i64' (by rfl), ?_, ?_⟩
    · rw [dropF_same hf]; exact (HM1.out)
    · exact Near.of_below (HB.out)
  case true =>
    rw [hf] at hlk
    skip
    obtain ⟨w2, hdel, r1, r2⟩ := HM1.out.mf.dropA ofKeys Try.underlying97 hd 0
    simp only [ofVal] at hdel
    go_enter Try.func45, Try.ntmps45
    go_wp2
    go_ret
    have q := HM1.out.cutF r1 r2
    exact ⟨ret_i64' (by rfl), q.1, (Near.of_below HB.out).trans (q.2.mono HB.out.size)⟩
theorem dropB_walk (g : Nat) (n : NetV) (f o b : Nat) (M : MemS) (k : Nat) (i : Int) (p : P4) (W : World) (hM : MemAt W g n f o b M k) (hi : i64ok i) (hp : p.ok) :
    Calls Try.prog 47 #[.map (some b), .agg #[.int .i64 i, .int .i64 p.src, .int .i64 p.dst, .int .i64 p.sport, .int .i64 p.dport]] W fun e W' => e = .returned (.int .i64 (if (M.B (i, p)).isSome = true then 0 else 7)) ∧ MemAt W' g n f o b (M.drop (.back (i, p))) k ∧ Near (Is3 f o b) W.heap.size W W' := by
  have hd : ofDom (i, p) := ⟨hi, hp⟩
  have hb : Below W.heap.size W (W.alloc (.cells #[.int .i64 i, .int .i64 p.src, .int .i64 p.dst, .int .i64 p.sport, .int .i64 p.dport] 115)) := (Below.refl _ _).alloc (Nat.le_refl _) _
  have HM1 := hide (hM.below hb)
  have hlk := HM1.out.lookB (i, p) hd
  simp only [ofVal] at hlk
  have HB := hide hb
  clear hM hb
  cases hf : M.B (i, p)
  case none =>
    rw [hf] at hlk
    simp only [Option.getD_none, Option.getD_some, Option.isSome_none, Option.isSome_some] at hlk
    go_enter Try.func47, Try.ntmps47
    go_wp2
    go_ret
    refine ⟨ret_i64' (by rfl), ?_, ?_⟩
    · rw [dropB_same hf]; exact (HM1.out)
    · exact Near.of_below (HB.out)
  case some u =>
    rw [hf] at hlk
    simp only [Option.getD_none, Option.getD_some, Option.isSome_none, Option.isSome_some] at hlk
    obtain ⟨w2, hdel, r1, r2⟩ := HM1.out.mb.dropA ofKeys Try.underlying99 hd 0
    simp only [ofVal] at hdel
    go_enter Try.func47, Try.ntmps47
    go_wp2
    go_ret
    have q := HM1.out.cutB r1 r2
    exact ⟨ret_i64' (by rfl), q.1, (Near.of_below HB.out).trans (q.2.mono HB.out.size)⟩
theorem dropO_walk (g : Nat) (n : NetV) (f o b : Nat) (M : MemS) (k : Nat) (i : Int) (p : Int) (W : World) (hM : MemAt W g n f o b M k) (hi : i64ok i) (hp : i64ok p) :
    Calls Try.prog 46 #[.map (some o), .agg #[.int .i64 i, .int .i64 p]] W fun e W' => e = .returned (.int .i64 (if (M.O (i, p)).isSome = true then 0 else 7)) ∧ MemAt W' g n f o b (M.drop (.owner (i, p))) k ∧ Near (Is3 f o b) W.heap.size W W' := by
  have hd : poDom (i, p) := ⟨hi, hp⟩
  have hb : Below W.heap.size W (W.alloc (.cells #[.int .i64 i, .int .i64 p] 118)) := (Below.refl _ _).alloc (Nat.le_refl _) _
  have HM1 := hide (hM.below hb)
  have hlk := HM1.out.lookO (i, p) hd
  simp only [poVal, ownV] at hlk
  have HB := hide hb
  clear hM hb
  cases hf : M.O (i, p)
  case none =>
    rw [hf] at hlk
    simp only [Option.getD_none, Option.getD_some, Option.isSome_none, Option.isSome_some] at hlk
    go_enter Try.func46, Try.ntmps46
    go_wp2
    go_ret
    refine ⟨ret_i64' (by rfl), ?_, ?_⟩
    · rw [dropO_same hf]; exact (HM1.out.below ((Below.refl _ _).alloc (Nat.le_refl _) _))
    · exact Near.of_below (HB.out.alloc HB.out.size _)
  case some u =>
    rw [hf] at hlk
    simp only [Option.getD_none, Option.getD_some, Option.isSome_none, Option.isSome_some] at hlk
    obtain ⟨w2, hdel, r1, r2⟩ := (HM1.out.below ((Below.refl _ _).alloc (Nat.le_refl _) (.cells #[.int .i64 u.1, .int .i64 u.2] 120))).mo.dropA poKeys Try.underlying98 hd 0
    simp only [poVal, ownV] at hdel
    go_enter Try.func46, Try.ntmps46
    go_wp2
    go_ret
    have q := (HM1.out.below ((Below.refl _ _).alloc (Nat.le_refl _) (.cells #[.int .i64 u.1, .int .i64 u.2] 120))).cutO r1 r2
    exact ⟨ret_i64' (by rfl), q.1, (Near.of_below (HB.out.alloc HB.out.size _)).trans (q.2.mono (HB.out.alloc HB.out.size _).size)⟩
-- END OF DROPS
def forgetS (ds : List Dev) (M : MemS) (i : Int) (p : P4) (q : Int) : Int × MemS :=
  if i < 0 then (4, M) else match ds[i.toNat]? with
  | none => (4, M)
  | some r => if r.kind = 3 then (if M.F (i, p) = true then 0 else 7, M.drop (.flow (i, p))) else if r.kind = 4 then (if (M.O (i, q)).isSome = true then 0 else 7, M.drop (.owner (i, q)))
    else if r.kind = 5 then (if (M.B (i, p)).isSome = true then 0 else 7, M.drop (.back (i, p))) else (4, M)
theorem forget_walk (g : Nat) (n : NetV) (f o b : Nat) (M : MemS) (k : Nat) (i : Int) (p : P4) (q : Int) (W : World) (hM : MemAt W g n f o b M k) (hn : n.dn ≤ 10) (hi : i64ok i) (hp : p.ok) (hq : i64ok q) :
    Calls Try.prog 34 #[.pointer (some ⟨g, 0, none⟩), .int .i64 i, .agg #[.int .i64 p.src, .int .i64 p.dst, .int .i64 p.sport, .int .i64 p.dport], .int .i64 q] W fun e W' =>
      e = .returned (.int .i64 (forgetS n.devs M i p q).1) ∧ MemAt W' g n f o b (forgetS n.devs M i p q).2 k ∧ Near (Is3 f o b) W.heap.size W W' := by
  have hdl := devs_len hM.net
  have HB1 := hide (show Below W.heap.size W (W.alloc (.cells #[.int .i64 p.src, .int .i64 p.dst, .int .i64 p.sport, .int .i64 p.dport] 38)) from (Below.refl _ _).alloc (Nat.le_refl _) _)
  have HX1 := hide (BoxV.new W #[.int .i64 p.src, .int .i64 p.dst, .int .i64 p.sport, .int .i64 p.dport] 38)
  have HL1 := hide (show W.heap.size < (W.alloc (.cells #[.int .i64 p.src, .int .i64 p.dst, .int .i64 p.sport, .int .i64 p.dport] 38)).heap.size by simp)
  have HM1 := hide (hM.below HB1.out)
  have HMA := hide (fun (w' : World) (hb : Below W.heap.size W w') => hM.below hb)
  obtain ⟨S, hS⟩ : ∃ S, forgetS n.devs M i p q = S := ⟨_, rfl⟩
  rw [hS]
  have HS0 := hide hS
  have d2 : (n.dn : Int) ≤ 10 := by omega
  clear hM hS
  have k0 := HM1.out.c0
  by_cases h1 : i < 0
  · have HS := hide (show S = (4, M) from by rw [← HS0.out]; simp [forgetS, h1])
    go_enter Try.func34, Try.ntmps34
    go_wp2
    go_ret
    exact ⟨ret_i64' (by rw [HS.out]), by rw [HS.out]; exact HM1.out, Near.of_below HB1.out⟩
  have e1 : decide (i < 0) = false := by simp; omega
  by_cases h2 : (n.dn : Int) ≤ i
  · have HS := hide (show S = (4, M) from by rw [← HS0.out]; simp [forgetS, h1, List.getElem?_eq_none (show n.devs.length ≤ i.toNat by omega)])
    go_enter Try.func34, Try.ntmps34
    go_wp2
    go_ret
    exact ⟨ret_i64' (by rw [HS.out]), by rw [HS.out]; exact HM1.out, Near.of_below HB1.out⟩
  obtain ⟨j, rfl⟩ : ∃ j : Nat, i = (j : Int) := ⟨i.toNat, by omega⟩
  have hjl : j < n.ds.length := by have := HM1.out.net.dlen; omega
  obtain ⟨r, hr⟩ : ∃ r, n.ds[j]? = some r := ⟨_, List.getElem?_eq_getElem hjl⟩
  obtain ⟨db, od, hdA, hdb0, hdb1⟩ := HM1.out.net.ds.2 (by omega)
  clear hdb0 hdb1
  have hnet := HM1.out.net.ds
  rw [hdA] at hnet
  rw [hdA] at k0
  have k3 := (dev_get hnet hr).2.2.1
  have HSR := hide (show S = (if r.kind = 3 then (if M.F ((j : Int), p) = true then 0 else 7, M.drop (.flow ((j : Int), p))) else if r.kind = 4 then (if (M.O ((j : Int), q)).isSome = true then 0 else 7, M.drop (.owner ((j : Int), q)))
    else if r.kind = 5 then (if (M.B ((j : Int), p)).isSome = true then 0 else 7, M.drop (.back ((j : Int), p))) else (4, M)) from by
    have hr' : n.devs[j]? = some r.dev := by simp [NetV.devs, hr]
    rw [← HS0.out]
    unfold forgetS
    rw [if_neg h1, Int.toNat_natCast, hr']
    rfl)
  have e2 : decide ((n.dn : Int) ≤ (j : Int)) = false := by simp; omega
  have i1 : (0 : Int) ≤ (j : Int) := by omega
  have i2 : (j : Int) < (n.dn : Int) := by omega
  clear hnet hjl hdl HS0 hdA h1 h2
  have HF := hide (fun (w' : World) (hb : Below (W.alloc (.cells #[.int .i64 p.src, .int .i64 p.dst, .int .i64 p.sport, .int .i64 p.dport] 38)).heap.size (W.alloc (.cells #[.int .i64 p.src, .int .i64 p.dst, .int .i64 p.sport, .int .i64 p.dport] 38)) w') => show (w'.cell? ⟨g, 1, none⟩ = some (.slice n.lA n.ln n.lc) ∧ w'.cell? ⟨g, 2, none⟩ = some (.map (some f)) ∧ w'.cell? ⟨g, 3, none⟩ = some (.map (some o)) ∧ w'.cell? ⟨g, 4, none⟩ = some (.map (some b)) ∧
      (w'.cell? ⟨W.heap.size, 0, none⟩ = some (.int .i64 p.src) ∧ w'.cell? ⟨W.heap.size, 1, none⟩ = some (.int .i64 p.dst) ∧ w'.cell? ⟨W.heap.size, 2, none⟩ = some (.int .i64 p.sport) ∧ w'.cell? ⟨W.heap.size, 3, none⟩ = some (.int .i64 p.dport))) from by
    have q := HX1.out.below hb HL1.out
    have m := HM1.out.below hb
    exact ⟨m.c1, m.c2, m.c3, m.c4, q.1 0 _ rfl, q.1 1 _ rfl, q.1 2 _ rfl, q.1 3 _ rfl⟩)
  have HW := hide (fun (w' : World) (hb : Below (W.alloc (.cells #[.int .i64 p.src, .int .i64 p.dst, .int .i64 p.sport, .int .i64 p.dport] 38)).heap.size (W.alloc (.cells #[.int .i64 p.src, .int .i64 p.dst, .int .i64 p.sport, .int .i64 p.dport] 38)) w') => show Below W.heap.size W w' from HB1.out.trans (hb.mono HB1.out.size))
  by_cases hk3 : r.kind = 3
  · have HS := hide (show S = (if M.F ((j : Int), p) = true then 0 else 7, M.drop (.flow ((j : Int), p))) from by rw [HSR.out, if_pos hk3])
    have HDR := hide (fun (w' : World) (hb : Below W.heap.size W w') => dropF_walk g n f o b M k (j : Int) p w' (HMA.out _ hb) hi hp)
    obtain ⟨E, hE⟩ : ∃ E : Int, (if M.F ((j : Int), p) = true then 0 else 7) = E := ⟨_, rfl⟩
    simp only [hE] at HDR HS
    clear hE
    rw [hk3] at k3
    clear hk3 HSR
    go_enter Try.func34, Try.ntmps34
    go_wp2
    generalize World.alloc W _ = W1 at *
    refine wp_region_E (fun w' => Below W1.heap.size W1 w') 7 (by kernel_rfl) ((Below.refl _ _).drew) (fun hS => ?_)
    refine rP 0 hS ?_
    refine rP 1 hS ?_
    refine rP 2 hS ?_
    refine rL 3 [7] rfl hS (by intro w hSw; obtain ⟨s0, s1, s2, s3, s4⟩ := HF.out _ hSw; go_simp; try with_reducible rfl) ?_
    refine rP 4 hS ?_
    refine rL 5 [6, 7] rfl hS (by intro w hSw; obtain ⟨s0, s1, s2, s3, s4⟩ := HF.out _ hSw; go_simp; try with_reducible rfl) ?_
    refine rP 6 hS ?_
    intro inv
    refine rT 7 inv fun K hK => ?_
    go_simp
    refine (HDR.out _ (HW.out _ hS)).mono ?_
    rintro e w9 ⟨rfl, hM9, hN9⟩
    have HM9 := hide hM9
    have HN9 := hide ((Near.of_below (p := Is3 f o b) (HW.out _ hS)).trans (hN9.mono (HW.out _ hS).size))
    clear hM9 hN9
    go_wp2_with fail
    refine hK.out _ _ ?_
    clear hK K inv
    intro inv
    try simp only [Act.put, nrmA, nrmB, nrmC]
    refine rT 8 inv fun K hK => ?_
    go_simp
    refine hK.out _ _ ?_
    clear hK K inv
    intro inv
    try simp only [Act.put, nrmA, nrmB, nrmC]
    refine rD ?_
    clear inv
    go_wp2
    go_ret
    exact ⟨ret_i64' (by rw [HS.out]), by rw [HS.out]; exact HM9.out, HN9.out⟩
  by_cases hk4 : r.kind = 4
  · have HS := hide (show S = (if (M.O ((j : Int), q)).isSome = true then 0 else 7, M.drop (.owner ((j : Int), q))) from by rw [HSR.out, if_neg hk3, if_pos hk4])
    have HDR := hide (fun (w' : World) (hb : Below W.heap.size W w') => dropO_walk g n f o b M k (j : Int) q w' (HMA.out _ hb) hi hq)
    obtain ⟨E, hE⟩ : ∃ E : Int, (if (M.O ((j : Int), q)).isSome = true then 0 else 7) = E := ⟨_, rfl⟩
    simp only [hE] at HDR HS
    clear hE
    rw [hk4] at k3
    have k5 := HM1.out.c3
    clear hk3 hk4 HSR
    go_enter Try.func34, Try.ntmps34
    go_wp2_with fail
    generalize World.alloc W _ = W1 at *
    refine (HDR.out _ (HB1.out)).mono ?_
    rintro e w9 ⟨rfl, hM9, hN9⟩
    go_wp2
    go_ret
    exact ⟨ret_i64' (by rw [HS.out]), by rw [HS.out]; exact hM9, (Near.of_below HB1.out).trans (hN9.mono HB1.out.size)⟩
  by_cases hk5 : r.kind = 5
  · have HS := hide (show S = (if (M.B ((j : Int), p)).isSome = true then 0 else 7, M.drop (.back ((j : Int), p))) from by rw [HSR.out, if_neg hk3, if_neg hk4, if_pos hk5])
    have HDR := hide (fun (w' : World) (hb : Below W.heap.size W w') => dropB_walk g n f o b M k (j : Int) p w' (HMA.out _ hb) hi hp)
    obtain ⟨E, hE⟩ : ∃ E : Int, (if (M.B ((j : Int), p)).isSome = true then 0 else 7) = E := ⟨_, rfl⟩
    simp only [hE] at HDR HS
    clear hE
    rw [hk5] at k3
    clear hk3 hk4 hk5 HSR
    go_enter Try.func34, Try.ntmps34
    go_wp2
    generalize World.alloc W _ = W1 at *
    refine wp_region_E (fun w' => Below W1.heap.size W1 w') 7 (by kernel_rfl) ((Below.refl _ _).drew) (fun hS => ?_)
    refine rP 0 hS ?_
    refine rP 1 hS ?_
    refine rP 2 hS ?_
    refine rL 3 [7] rfl hS (by intro w hSw; obtain ⟨s0, s1, s2, s3, s4⟩ := HF.out _ hSw; go_simp; try with_reducible rfl) ?_
    refine rP 4 hS ?_
    refine rL 5 [6, 7] rfl hS (by intro w hSw; obtain ⟨s0, s1, s2, s3, s4⟩ := HF.out _ hSw; go_simp; try with_reducible rfl) ?_
    refine rP 6 hS ?_
    intro inv
    refine rT 7 inv fun K hK => ?_
    go_simp
    refine (HDR.out _ (HW.out _ hS)).mono ?_
    rintro e w9 ⟨rfl, hM9, hN9⟩
    have HM9 := hide hM9
    have HN9 := hide ((Near.of_below (p := Is3 f o b) (HW.out _ hS)).trans (hN9.mono (HW.out _ hS).size))
    clear hM9 hN9
    go_wp2_with fail
    refine hK.out _ _ ?_
    clear hK K inv
    intro inv
    try simp only [Act.put, nrmA, nrmB, nrmC]
    refine rT 8 inv fun K hK => ?_
    go_simp
    refine hK.out _ _ ?_
    clear hK K inv
    intro inv
    try simp only [Act.put, nrmA, nrmB, nrmC]
    refine rD ?_
    clear inv
    go_wp2
    go_ret
    exact ⟨ret_i64' (by rw [HS.out]), by rw [HS.out]; exact HM9.out, HN9.out⟩
  have HS := hide (show S = (4, M) from by rw [HSR.out, if_neg hk3, if_neg hk4, if_neg hk5])
  have d3 : (r.kind == 3) = false := by simp [hk3]
  have d4 : (r.kind == 4) = false := by simp [hk4]
  have d5 : (r.kind == 5) = false := by simp [hk5]
  clear HSR hk3 hk4 hk5
  go_enter Try.func34, Try.ntmps34
  go_wp2
  go_ret
  exact ⟨ret_i64' (by rw [HS.out]), by rw [HS.out]; exact HM1.out, Near.of_below HB1.out⟩
structure BX (W : World) (L : List (Nat × Array Value)) (w : World) : Prop where
  bl : Below W.heap.size W w
  bx : ∀ x ∈ L, BoxV w x.1 x.2 ∧ x.1 < w.heap.size
theorem BX.below {W w w' : World} {L : List (Nat × Array Value)} (h : BX W L w) (hb : Below w.heap.size w w') : BX W L w' :=
  ⟨h.bl.trans (hb.mono h.bl.size), fun x hx => ⟨(h.bx x hx).1.below hb (h.bx x hx).2, Nat.lt_of_lt_of_le (h.bx x hx).2 hb.size⟩⟩
theorem BX.get {W w : World} {L : List (Nat × Array Value)} (h : BX W L w) (i : Nat) {x : Nat × Array Value} (hx : L[i]? = some x) : BoxV w x.1 x.2 := (h.bx x (List.mem_of_getElem? hx)).1
theorem BX.more {W w w' : World} {L : List (Nat × Array Value)} (h : BX W L w) (hb : Below w.heap.size w w') {N : Nat} {vs : Array Value} (hx : BoxV w' N vs) (hN : N < w'.heap.size) : BX W ((N, vs) :: L) w' :=
  ⟨(h.below hb).bl, fun x hm => by
    rcases List.mem_cons.1 hm with rfl | hm
    · exact ⟨hx, hN⟩
    · exact (h.below hb).bx x hm⟩
structure FA (W : World) (L : List (Nat × Array Value)) (g : Nat) (n : NetV) (f o b : Nat) (M : MemS) (k : Nat) (w : World) : Prop where
  box : BX W L w
  mem : MemAt w g n f o b M k
  ap : ∀ x ∈ L, ¬ Is3 f o b x.1
  lo : ∀ j, Is3 f o b j → W.heap.size ≤ j
section
variable {W w w' : World} {L : List (Nat × Array Value)} {g : Nat} {n : NetV} {f o b : Nat} {M M' : MemS} {k k' : Nat}
theorem FA.near (h : FA W L g n f o b M k w) (hm : MemAt w' g n f o b M' k') (hn : Near (Is3 f o b) w.heap.size w w') : FA W L g n f o b M' k' w' :=
  ⟨⟨((Near.of_below (p := Is3 f o b) h.box.bl).trans (hn.mono h.box.bl.size)).below (Nat.le_refl _) h.lo, fun x hx => ⟨(h.box.bx x hx).1.near hn (h.box.bx x hx).2 (h.ap x hx), Nat.lt_of_lt_of_le (h.box.bx x hx).2 hn.size⟩⟩, hm, h.ap, h.lo⟩
theorem FA.more (h : FA W L g n f o b M k w) {N : Nat} {vs : Array Value} (hx : BoxV w N vs) (hN : N < w.heap.size) (ha : ¬ Is3 f o b N) : FA W ((N, vs) :: L) g n f o b M k w :=
  ⟨h.box.more (Below.refl _ _) hx hN, h.mem, fun x hm => by
    rcases List.mem_cons.1 hm with rfl | hm
    · exact ha
    · exact h.ap x hm, h.lo⟩
end
theorem chain_hand (d : Dev) (M : MemS) (y : Int) (p : P4) (ch : Int) (hy : 0 ≤ y ∧ y < portsF d.kind) (hp : rightB p = true) :
    handS (chainD d) chainL M 1 y p ch = goS chainL 1 (outS ⟨⟨#[100]⟩, d.kind, d.addr, d.pool, d.backs, d.rules, d.routes⟩ M 1 y p ch) :=
  handS_go (by rw [chain_in (x := 0)]; simp [hy]) hp rfl
theorem fire_out_s (R : List RuleV) (M : MemS) (p : P4) (ch : Int) (hp : rightB p = true) : handS (chainD (fireD R)) chainL M 1 0 p ch = if letsB R p = true then ⟨0, (2, 0), p, .flow (1, p)⟩ else .bad 7 := by
  rw [chain_hand _ _ _ _ _ (by simp [fireD, portsF]) hp]
  simp [outS, fireD, fireF, goS, peer1]
structure FB (W : World) (L : List (Nat × Array Value)) (g : Nat) (n : NetV) (f o b : Nat) (M : MemS) (k : Nat) (w0 : World) (Z : List (Nat × Array Value)) (M' : MemS) (k' : Nat) (w : World) : Prop where
  f0 : FA W L g n f o b M k w0
  mem : MemAt w g n f o b M' k'
  near : Near (Is3 f o b) w0.heap.size w0 w
  z : ∀ x ∈ Z, BoxV w x.1 x.2 ∧ x.1 < w.heap.size ∧ w0.heap.size ≤ x.1
section
variable {W w w' w0 : World} {L Z : List (Nat × Array Value)} {g : Nat} {n : NetV} {f o b : Nat} {M M' M'' : MemS} {k k' k'' : Nat}
theorem FA.start (h : FA W L g n f o b M k w0) : FB W L g n f o b M k w0 [] M k w0 := ⟨h, h.mem, Near.refl _ _ _, fun x hx => by cases hx⟩
theorem FB.not3 (h : FB W L g n f o b M k w0 Z M' k' w) {j : Nat} (hj : w0.heap.size ≤ j) : ¬ Is3 f o b j := fun e => by
  have := h.f0.mem.flt
  have := h.f0.mem.olt
  have := h.f0.mem.blt
  rcases e with e | e | e <;> omega
theorem FB.below (h : FB W L g n f o b M k w0 Z M' k' w) (hb : Below w.heap.size w w') : FB W L g n f o b M k w0 Z M' k' w' :=
  ⟨h.f0, h.mem.below hb, h.near.trans ((Near.of_below hb).mono h.near.size), fun x hx => ⟨(h.z x hx).1.below hb (h.z x hx).2.1, Nat.lt_of_lt_of_le (h.z x hx).2.1 hb.size, (h.z x hx).2.2⟩⟩
theorem FB.d (h : FB W L g n f o b M k w0 Z M' k' w) : FB W L g n f o b M k w0 Z M' k' w.drew := h.below (Below.refl _ _).drew
theorem FB.al (h : FB W L g n f o b M k w0 Z M' k' w) (vs : Array Value) (t : TypeId) : FB W L g n f o b M k w0 ((w.heap.size, vs) :: Z) M' k' (w.alloc (.cells vs t)) := by
  have q := h.below ((Below.refl _ _).alloc (Nat.le_refl _) (.cells vs t))
  refine ⟨q.f0, q.mem, q.near, fun x hx => ?_⟩
  rcases List.mem_cons.1 hx with rfl | hx
  · exact ⟨BoxV.new _ _ _, by simp, h.near.size⟩
  · exact q.z x hx
theorem FB.step (h : FB W L g n f o b M k w0 Z M' k' w) (hm : MemAt w' g n f o b M'' k'') (hn : Near (Is3 f o b) w.heap.size w w') : FB W L g n f o b M k w0 Z M'' k'' w' :=
  ⟨h.f0, hm, h.near.trans (hn.mono h.near.size), fun x hx => ⟨(h.z x hx).1.near hn (h.z x hx).2.1 (h.not3 (h.z x hx).2.2), Nat.lt_of_lt_of_le (h.z x hx).2.1 hn.size, (h.z x hx).2.2⟩⟩
theorem FB.set {N : Nat} {vs : Array Value} (h : FB W L g n f o b M k w0 ((N, vs) :: Z) M' k' w) (j : Nat) (v : Value) : FB W L g n f o b M k w0 [(N, vs.setIfInBounds j v)] M' k' (w.setCell ⟨N, j, none⟩ v) := by
  obtain ⟨h1, h2, h3⟩ := h.z (N, vs) List.mem_cons_self
  have hb : Below w0.heap.size w (w.setCell ⟨N, j, none⟩ v) := (Below.refl _ _).setCell h3 v
  have hn : Near (Is3 f o b) w0.heap.size w0 (w.setCell ⟨N, j, none⟩ v) := h.near.trans (Near.of_below hb)
  refine ⟨h.f0, MemAt.to h.f0.mem hn h.mem hb, hn, fun x hx => ?_⟩
  obtain rfl := List.mem_singleton.1 hx
  exact ⟨h1.set j v, by simpa [World.setCell] using h2, h3⟩
theorem FB.fa (h : FB W L g n f o b M k w0 Z M' k' w) : FA W L g n f o b M' k' w := h.f0.near h.mem h.near
theorem FB.done {N : Nat} {vs : Array Value} (h : FB W L g n f o b M k w0 ((N, vs) :: Z) M' k' w) : FA W ((N, vs) :: L) g n f o b M' k' w := by
  obtain ⟨h1, h2, h3⟩ := h.z (N, vs) List.mem_cons_self
  exact h.fa.more h1 h2 (h.not3 h3)
end
theorem cells4 {w : World} {N : Nat} {a b c d : Int} (h : BoxV w N #[.int .i64 a, .int .i64 b, .int .i64 c, .int .i64 d]) : w.cell? ⟨N, 0, none⟩ = some (.int .i64 a) ∧ w.cell? ⟨N, 1, none⟩ = some (.int .i64 b) ∧ w.cell? ⟨N, 2, none⟩ = some (.int .i64 c) ∧ w.cell? ⟨N, 3, none⟩ = some (.int .i64 d) := ⟨h.1 0 _ rfl, h.1 1 _ rfl, h.1 2 _ rfl, h.1 3 _ rfl⟩
theorem cells6 {w : World} {N : Nat} {a b c d e f : Int} (h : BoxV w N #[.int .i64 a, .int .i64 b, .int .i64 c, .int .i64 d, .int .i64 e, .int .i64 f]) : (w.cell? ⟨N, 0, none⟩ = some (.int .i64 a) ∧ w.cell? ⟨N, 1, none⟩ = some (.int .i64 b) ∧ w.cell? ⟨N, 2, none⟩ = some (.int .i64 c) ∧ w.cell? ⟨N, 3, none⟩ = some (.int .i64 d) ∧ w.cell? ⟨N, 4, none⟩ = some (.int .i64 e) ∧ w.cell? ⟨N, 5, none⟩ = some (.int .i64 f)) ∧
    w.frozen? ⟨N, 0, none⟩ = false ∧ w.frozen? ⟨N, 1, none⟩ = false ∧ w.frozen? ⟨N, 2, none⟩ = false ∧ w.frozen? ⟨N, 3, none⟩ = false ∧ w.frozen? ⟨N, 4, none⟩ = false ∧ w.frozen? ⟨N, 5, none⟩ = false :=
  ⟨⟨h.1 0 _ rfl, h.1 1 _ rfl, h.1 2 _ rfl, h.1 3 _ rfl, h.1 4 _ rfl, h.1 5 _ rfl⟩, h.2 _, h.2 _, h.2 _, h.2 _, h.2 _, h.2 _⟩
theorem cut_region {P : Program} {c : Code} {Q : Exit → Act → World → Prop} {a : Act} {w : World} (A : Nat → Act) (C : Nat → World → Prop) (h1 : Shut (∀ N w', C N w' → Q .normal (A N) w') → Code.wp P c Q a w) (h2 : ∀ N w', C N w' → Q .normal (A N) w') : Code.wp P c Q a w := h1 h2
end Go.Proofs.Ytifkacnoiocebaa
namespace Go.Proofs.Ytifkacnoiocebaa
open Go.RowKit
structure BN (W : World) (L : List (Nat × Array Value)) (N : Nat) (vs : Array Value) (w : World) : Prop where
  box : BX W L w
  z : BoxV w N vs
  lt : N < w.heap.size
  ap : ∀ x ∈ L, x.1 < N
  lo : W.heap.size ≤ N
section
variable {W w w' : World} {L : List (Nat × Array Value)} {N : Nat} {vs : Array Value}
theorem BX.al (h : BX W L w) (vs : Array Value) (t : TypeId) : BN W L w.heap.size vs (w.alloc (.cells vs t)) :=
  ⟨h.below ((Below.refl _ _).alloc (Nat.le_refl _) _), BoxV.new _ _ _, by simp, fun x hx => (h.bx x hx).2, h.bl.size⟩
theorem BN.done (h : BN W L N vs w) : BX W ((N, vs) :: L) w := ⟨h.box.bl, fun x hx => by
  rcases List.mem_cons.1 hx with rfl | hx
  · exact ⟨h.z, h.lt⟩
  · exact h.box.bx x hx⟩
end
section
variable {W w w5 : World} {g : Nat} {n : NetV} {A : Option Addr} {c : Nat} {L : List FactV}
theorem row_blk (A : Option Addr) (m c : Nat) : (Value.slice A m c).ownBlock = A.map (·.block) := by cases A <;> rfl
end
open Go.Maps
theorem backsOk_mem : ∀ (l : List Int) (ad : Int) (pre : List Int), backsOk ad pre l = true → ∀ b ∈ l, 0 ≤ b ∧ b < 16
  | [], _, _, _, b, hb => by cases hb
  | x :: t, ad, pre, h, b, hb => by
    simp only [backsOk, Bool.and_eq_true, decide_eq_true_eq] at h
    rcases List.mem_cons.1 hb with rfl | hb
    · exact ⟨h.1.1.1.1, h.1.1.1.2⟩
    · exact backsOk_mem t ad _ h.2 b hb
end Go.Proofs.Ytifkacnoiocebaa
namespace Go.Proofs.Ytifkacnoiocebaa
open Go.RowKit
structure ArrV where
  d : Int
  y : Int
  p : P4
def ArrV.cells (x : ArrV) : List Value := [.int .i64 x.d, .int .i64 x.y, .int .i64 x.p.src, .int .i64 x.p.dst, .int .i64 x.p.sport, .int .i64 x.p.dport]
theorem ArrV.len (x : ArrV) : x.cells.length = 6 := rfl
theorem ArrV.one (x : ArrV) : ∀ u ∈ x.cells, u.oneCell' = true := by
  intro u hu
  simp only [ArrV.cells, List.mem_cons, List.not_mem_nil, or_false] at hu
  rcases hu with rfl | rfl | rfl | rfl | rfl | rfl <;> rfl
def ArrV.val (x : ArrV) : Value := .agg #[.int .i64 x.d, .int .i64 x.y, .int .i64 x.p.src, .int .i64 x.p.dst, .int .i64 x.p.sport, .int .i64 x.p.dport]
def eqA (x y : ArrV) : Bool := x.d == y.d && x.y == y.y && eq4 x.p y.p
theorem eqA_iff (x y : ArrV) : eqA x y = true ↔ x = y := by
  obtain ⟨a, c, p⟩ := x
  obtain ⟨a', c', p'⟩ := y
  simp [eqA, eq4_iff, and_assoc]
instance : DecidableEq ArrV := fun x y => decidable_of_iff _ (eqA_iff x y)
structure ArrV.ok (x : ArrV) : Prop where
  d : i64ok x.d
  y : i64ok x.y
  p : x.p.ok
theorem arr_get {w : World} {B b o n k : Nat} {l : List ArrV} {x : ArrV} (h : SlAt ArrV.cells 6 w B (some ⟨b, o, none⟩) n l) (hx : l[k]? = some x) : w.cell? ⟨b, o + k * 6, none⟩ = some (.int .i64 x.d) ∧ w.cell? ⟨b, o + k * 6 + 1, none⟩ = some (.int .i64 x.y) ∧ w.cell? ⟨b, o + k * 6 + 2, none⟩ = some (.int .i64 x.p.src) ∧ w.cell? ⟨b, o + k * 6 + 3, none⟩ = some (.int .i64 x.p.dst) ∧ w.cell? ⟨b, o + k * 6 + 4, none⟩ = some (.int .i64 x.p.sport) ∧ w.cell? ⟨b, o + k * 6 + 5, none⟩ = some (.int .i64 x.p.dport) := by
  obtain ⟨_, hg⟩ := h.get hx
  exact ⟨hg 0 _ rfl, hg 1 _ rfl, hg 2 _ rfl, hg 3 _ rfl, hg 4 _ rfl, hg 5 _ rfl⟩
theorem equalArr_yes (l : List ArrV) (A1 A2 : Option Addr) (n c1 c2 : Nat) (W : World) (hn : n ≤ 9223372036854775807) (h1 : SlAt ArrV.cells 6 W W.heap.size A1 n l) (h2 : SlAt ArrV.cells 6 W W.heap.size A2 n l) :
    Calls Try.prog 12 #[.slice A1 n c1, .slice A2 n c2] W fun e W' => e = .returned (.bool true) ∧ RowKit.Below W.heap.size W W' := by
  have H1 := hide h1
  have H2 := hide h2
  clear h1 h2
  go_enter Try.func12, Try.ntmps12
  go_wp2
  go_loopw [13] (fun i wr => ∃ k : Nat, k ≤ n ∧ i = .int .i64 k ∧ Hid (RowKit.Below W.heap.size W wr)) (fun i _ => n - (intOf i).toNat)
  case atStart => exact ⟨0, Nat.zero_le _, rfl, hide (RowKit.Below.refl _ _)⟩
  case round =>
    obtain ⟨k, hk, rfl, HB⟩ := hrel
    by_cases hlt : k < n
    · obtain ⟨z, hz⟩ : ∃ r, l[k]? = some r := ⟨_, List.getElem?_eq_getElem (by have := H1.out.1; omega)⟩
      obtain ⟨b, o, rfl, _, _⟩ := H1.out.2 (by omega)
      obtain ⟨b', o', rfl, _, _⟩ := H2.out.2 (by omega)
      obtain ⟨q0, q1, q2, q3, q4, q5⟩ := arr_get (H1.out.below HB.out HB.out.size) hz
      obtain ⟨u0, u1, u2, u3, u4, u5⟩ := arr_get (H2.out.below HB.out HB.out.size) hz
      clear hz
      go_wp2
      go_quiet (fail)
      go_wp2
      go_roundw
      case rel => exact ⟨k + 1, by omega, by go_num, hide (HB.out.trans (below_drew _ _ _))⟩
      case measure => simp [intOf]; omega
    · go_wp2
      go_ret
      exact ⟨rfl, HB.out⟩
open Go.ChangeAt Go.ChangeShapes Go.WideShapes
def P4.cells (p : P4) : List Value := [.int .i64 p.src, .int .i64 p.dst, .int .i64 p.sport, .int .i64 p.dport]
structure ActV where
  kind : Int
  dev : Int
  port : Int
  p : P4
  ch : Int
def ActV.cells (x : ActV) : List Value := [.int .i64 x.kind, .int .i64 x.dev, .int .i64 x.port, .int .i64 x.p.src, .int .i64 x.p.dst, .int .i64 x.p.sport, .int .i64 x.p.dport, .int .i64 x.ch]
theorem ActV.len (x : ActV) : x.cells.length = 8 := rfl
structure ActV.ok (x : ActV) : Prop where
  k : i64ok x.kind
  d : i64ok x.dev
  y : i64ok x.port
  p : x.p.ok
  c : i64ok x.ch
section
variable {H : Type} {enc : TypeId × Value → H} {w : World} {base : Nat} {spare : Nat → Bool} {held : Bool} {r : Reach} {b0 : Nat}
theorem Try.cellsPacket4 : Try.prog.cellsOf 38 = 4 := by kernel_rfl
theorem read_packet {n : Nat} {cs : List Value} {y : DataW H × List MemPlace} (h : DataW.trod enc Try.prog w base spare held n 38 cs = some y) : ∃ p : P4, p.ok ∧ cs = p.cells := by
  obtain ⟨xs, n', _, _, hlen, hxl, hf⟩ := DataW.trod_struct Try.underlying38 h
  rw [Try.cellsPacket4] at hlen
  match cs, hlen with
  | [c0, c1, c2, c3], _ =>
    have h0 := hf 0 _ rfl
    have h1 := hf 1 _ rfl
    have h2 := hf 2 _ rfl
    have h3 := hf 3 _ rfl
    obtain ⟨y0, e0⟩ := get_some (xs := xs) (i := 0) (by rw [hxl]; decide)
    obtain ⟨y1, e1⟩ := get_some (xs := xs) (i := 1) (by rw [hxl]; decide)
    obtain ⟨y2, e2⟩ := get_some (xs := xs) (i := 2) (by rw [hxl]; decide)
    obtain ⟨y3, e3⟩ := get_some (xs := xs) (i := 3) (by rw [hxl]; decide)
    rw [e0] at h0
    rw [e1] at h1
    rw [e2] at h2
    rw [e3] at h3
    simp [cellsI1] at h0 h1 h2 h3
    obtain ⟨a, rfl, ha⟩ := trod_i64 h0
    obtain ⟨b, rfl, hb⟩ := trod_i64 h1
    obtain ⟨c, rfl, hc⟩ := trod_i64 h2
    obtain ⟨d, rfl, hd⟩ := trod_i64 h3
    exact ⟨⟨a, b, c, d⟩, ⟨ha, hb, hc, hd⟩, rfl⟩
end
end Go.Proofs.Ytifkacnoiocebaa
