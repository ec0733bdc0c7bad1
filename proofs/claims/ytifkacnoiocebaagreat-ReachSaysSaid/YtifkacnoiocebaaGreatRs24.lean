/- A part of the proof: Rd13, PkCode, RdA, Rd15, PkOf, Df1, Sp1. -/
import Derived.Test.YtifkacnoiocebaaGreatRs23
import Derived.Deep.LoopGhost
set_option linter.unusedVariables false
set_option linter.unusedSimpArgs false
set_option maxRecDepth 100000
set_option maxHeartbeats 4000000
namespace Go.Proofs.YtifkacnoiocebaaGreat
open Bdd Go.Maps Go.RowKit
theorem Tryz.infoSum : (Tryz.prog.info? 73).map (fun i => (i.zero, i.size, i.bytes)) = some (some (.map none), 1, 8) := by kernel_rfl
theorem MapOk.empty {A : St} (i : Inv A) (ks : List Pl) : MapOk A (fun _ => none) (fun _ _ => false) ks :=
  ⟨fun a v h => by (cases h), fun x h => by (cases h), fun x => by rw [numAt_none rfl]; exact IsF.zero i⟩
theorem RD.start {w : World} {B g mk rd nm : Nat} {A : St} {bl : List Nat} {n : NetV} {wmV : Value} (hmk : MK w B g A (rd :: nm :: bl) mk 0) (hbx : Bx w rd #[.pointer (some ⟨mk, 0, none⟩), .slice n.dA n.dn n.dc, .slice n.lA n.ln n.lc, wmV, .map (some nm)] 75) {M : PoK → Option Value} {S : Pl → Bdd.Fn} (hm : MapP w nm M) (hok : MapOk A M S (endsOf n.ls)) (hne : rd ≠ nm ∧ rd ∉ bl ∧ nm ∉ bl) : RD w B g A bl mk 0 rd n wmV nm M S :=
  ⟨hmk, hbx, hm, hok.ints, hok.keys, fun _ x => hok.isF x, hne⟩
theorem new_boxes {w : World} {B g : Nat} {A : St} (h : AS w B g A []) (n : NetV) :
    RD ((((w.alloc (.cells #[.slice none 0 0, .pointer (some ⟨g, 0, none⟩)] 68)).alloc (.cells #[.pointer (some ⟨g, 0, none⟩), .int .i64 0] 72)).alloc (.map #[] 0)).alloc (.cells #[.pointer (some ⟨w.heap.size + 1, 0, none⟩), .slice n.dA n.dn n.dc, .slice n.lA n.ln n.lc, .map none, .map (some (w.heap.size + 1 + 1))] 75))
      B g A [w.heap.size] (w.heap.size + 1) 0 (w.heap.size + 1 + 1 + 1) n (.map none) (w.heap.size + 1 + 1) (fun _ => none) (fun _ _ => false) ∧
    Bx ((((w.alloc (.cells #[.slice none 0 0, .pointer (some ⟨g, 0, none⟩)] 68)).alloc (.cells #[.pointer (some ⟨g, 0, none⟩), .int .i64 0] 72)).alloc (.map #[] 0)).alloc (.cells #[.pointer (some ⟨w.heap.size + 1, 0, none⟩), .slice n.dA n.dn n.dc, .slice n.lA n.ln n.lc, .map none, .map (some (w.heap.size + 1 + 1))] 75))
      w.heap.size #[.slice none 0 0, .pointer (some ⟨g, 0, none⟩)] 68 ∧
    RowKit.Below w.heap.size w ((((w.alloc (.cells #[.slice none 0 0, .pointer (some ⟨g, 0, none⟩)] 68)).alloc (.cells #[.pointer (some ⟨g, 0, none⟩), .int .i64 0] 72)).alloc (.map #[] 0)).alloc (.cells #[.pointer (some ⟨w.heap.size + 1, 0, none⟩), .slice n.dA n.dn n.dc, .slice n.lA n.ln n.lc, .map none, .map (some (w.heap.size + 1 + 1))] 75)) := by
  have hinv := h.inv
  have h1 := h.alloc (.cells #[.slice none 0 0, .pointer (some ⟨g, 0, none⟩)] 68)
  have x1 := Bx.new w #[.slice none 0 0, .pointer (some ⟨g, 0, none⟩)] 68
  have b1 := below_alloc2 w (.cells #[.slice none 0 0, .pointer (some ⟨g, 0, none⟩)] 68)
  have s1 : (w.alloc (.cells #[.slice none 0 0, .pointer (some ⟨g, 0, none⟩)] 68)).heap.size = w.heap.size + 1 := by simp
  generalize World.alloc w _ = w3 at *
  have h2 := h1.alloc (.cells #[.pointer (some ⟨g, 0, none⟩), .int .i64 0] 72)
  have x2 := Bx.new w3 #[.pointer (some ⟨g, 0, none⟩), .int .i64 0] 72
  have b2 := below_alloc2 w3 (.cells #[.pointer (some ⟨g, 0, none⟩), .int .i64 0] 72)
  have s2 : (w3.alloc (.cells #[.pointer (some ⟨g, 0, none⟩), .int .i64 0] 72)).heap.size = w.heap.size + 1 + 1 := by simp [s1]
  rw [s1] at h2 x2
  have x1' := x1.below b2
  have b12 := b1.trans (b2.mono b1.size)
  generalize World.alloc w3 _ = w4 at *
  have h3 := h2.alloc (.map #[] 0)
  have x3 := MapIs.made (P := Tryz.prog) (kt := 27) (key := poVal) (dom := poDom) w4
  have b3 := below_alloc2 w4 (.map #[] 0)
  have s3 : (w4.alloc (.map #[] 0)).heap.size = w.heap.size + 1 + 1 + 1 := by simp [s2]
  rw [s2] at h3 x3
  have x1'' := x1'.below b3
  have x2' := x2.below b3
  have b13 := b12.trans (b3.mono b12.size)
  generalize World.alloc w4 _ = w5 at *
  have h4 := h3.alloc (.cells #[.pointer (some ⟨w.heap.size + 1, 0, none⟩), .slice n.dA n.dn n.dc, .slice n.lA n.ln n.lc, .map none, .map (some (w.heap.size + 1 + 1))] 75)
  have x4 := Bx.new w5 #[.pointer (some ⟨w.heap.size + 1, 0, none⟩), .slice n.dA n.dn n.dc, .slice n.lA n.ln n.lc, .map none, .map (some (w.heap.size + 1 + 1))] 75
  have b4 := below_alloc2 w5 (.cells #[.pointer (some ⟨w.heap.size + 1, 0, none⟩), .slice n.dA n.dn n.dc, .slice n.lA n.ln n.lc, .map none, .map (some (w.heap.size + 1 + 1))] 75)
  rw [s3] at h4 x4
  have b14 := b13.trans (b4.mono b13.size)
  have y3 := x3.same (b4.block _ x3.lt)
  generalize World.alloc w5 _ = w6 at *
  refine ⟨RD.start ⟨h4.mono (fun j hj => ?_), x2'.below b4, .inl rfl, ?_⟩ x4 y3 (MapOk.empty hinv _) ⟨by omega, ?_, ?_⟩, x1''.below b4, b14⟩
  · simp only [List.mem_cons, List.not_mem_nil, or_false] at hj ⊢
    omega
  · simp only [List.mem_cons, List.not_mem_nil, or_false]
    omega
  · simp only [List.mem_cons, List.not_mem_nil, or_false]
    omega
  · simp only [List.mem_cons, List.not_mem_nil, or_false]
    omega
theorem netLinks_ok {ds : List Dev} {ls : List LinkV} (h : netE ds ls = 0) : LinksOk ls := by
  have hn := netE_ok h
  refine ⟨hn.ll, fun x hx => ?_⟩
  have hv := hn.pl _ hx
  obtain ⟨⟨a1, a2⟩, a3, a4⟩ := placeB_iff.1 hv
  have hq := portsF_range (kindAt ds x.1)
  have hdl := hn.dl
  refine ⟨?_, ?_⟩ <;> (simp only [i64ok]; omega)
theorem next_box {w8 : World} {B g : Nat} {A : St} {N base : Nat} {v : Value} {L : List Ent} {er rd nm mk nb : Nat} {n : NetV} {Mn : PoK → Option Value} {S : Pl → Bdd.Fn} (h : Sums w8 B g A N base v L (endsOf n.ls) er [rd, nm, mk]) (ha : AS w8 B g A (nb :: (v.ownBlock.toList ++ ([rd, nm, mk] ++ N :: L.map Ent.blk)))) (hmk : Bx w8 mk #[.pointer (some ⟨g, 0, none⟩), .int .i64 (er : Int)] 72) (her : er = 0 ∨ (er = 6 ∧ A.len = A.most))
    (hmem : (⟨nm, Mn, S⟩ : Ent) ∈ L) (hm : MapP w8 nb Mn) (hne : nb ∉ v.ownBlock.toList ++ ([rd, nm, mk] ++ N :: L.map Ent.blk)) (h1 : mk ≠ rd) (h2 : mk ∉ L.map Ent.blk) :
    RD (w8.alloc (.cells #[.pointer (some ⟨mk, 0, none⟩), .slice n.dA n.dn n.dc, .slice n.lA n.ln n.lc, .map (some nm), .map (some nb)] 75)) B g A (rd :: (v.ownBlock.toList ++ N :: L.map Ent.blk)) mk er w8.heap.size n (.map (some nm)) nb Mn S ∧
    WasOk (w8.alloc (.cells #[.pointer (some ⟨mk, 0, none⟩), .slice n.dA n.dn n.dc, .slice n.lA n.ln n.lc, .map (some nm), .map (some nb)] 75)) A er (rd :: (v.ownBlock.toList ++ N :: L.map Ent.blk)) nm Mn S := by
  have hb := below_alloc2 w8 (.cells #[.pointer (some ⟨mk, 0, none⟩), .slice n.dA n.dn n.dc, .slice n.lA n.ln n.lc, .map (some nm), .map (some nb)] 75)
  have hlt := ha.lt
  have hent := h.ents _ hmem
  have hnN := h.ne
  simp only [List.mem_append, List.mem_cons, List.not_mem_nil, or_false, not_or] at hne hnN
  have hsub : ∀ j, j ∈ rd :: (v.ownBlock.toList ++ N :: L.map Ent.blk) → j ∈ v.ownBlock.toList ++ ([rd, nm, mk] ++ N :: L.map Ent.blk) := fun j hj => by
    simp only [List.mem_append, List.mem_cons, List.not_mem_nil, or_false] at hj ⊢
    rcases hj with a | a | a | a <;> simp [a]
  refine ⟨⟨⟨(ha.alloc _).mono (fun j hj => ?_), hmk.below hb, her, fun hj => ?_⟩, Bx.new _ _ _, hm.same (hb.block _ hm.lt), hent.2.ints, hent.2.keys, hent.2.isF, ?_, ?_, ?_⟩, ⟨?_, hent.1.same (hb.block _ hent.1.lt), hent.2.ints, hent.2.isF⟩⟩
  · simp only [List.mem_append, List.mem_cons, List.not_mem_nil, or_false] at hj ⊢
    rcases hj with a | a | a | a | a | a | a <;> simp [a]
  · have hl := (hlt mk (by simp)).2
    rcases List.mem_cons.1 hj with a | a
    · omega
    rcases List.mem_cons.1 a with a | a
    · exact hne.2.1.2.2 a.symm
    rcases List.mem_cons.1 a with a | a
    · exact h1 a
    rcases List.mem_append.1 a with a | a
    · exact h.ap mk (by simpa using a) (by simp)
    rcases List.mem_cons.1 a with a | a
    · exact hnN.1.2.2 a.symm
    · exact h2 a
  · have := (hlt nb (by simp)).2
    omega
  · intro hj
    have := (hlt _ (List.mem_cons_of_mem _ (hsub _ hj))).2
    omega
  · intro hj
    have := hsub _ hj
    simp only [List.mem_append, List.mem_cons, List.not_mem_nil, or_false] at this
    rcases this with a | a | a | a
    · exact hne.1 a
    · rcases a with a | a | a
      · exact hne.2.1.1 a
      · exact hne.2.1.2.1 a
      · exact hne.2.1.2.2 a
    · exact hne.2.2.1 a
    · exact hne.2.2.2 a
  · have : nm ∈ L.map Ent.blk := List.mem_map_of_mem (f := Ent.blk) hmem
    simp [this]
theorem reads_one {w : World} {N : Nat} {u : Value} {t : TypeId} (h : Bx w N #[u] t) : Reads w (N + 1) 1 (some ⟨N, 0, none⟩) 1 [u] :=
  ⟨rfl, fun _ => ⟨_, rfl, Nat.lt_succ_self _, fun j u' hu => by
    rw [addr_add, Nat.zero_add]
    exact h.get j u' (by simpa using hu)⟩⟩
structure NS (wr : World) (B g : Nat) (A : St) (N base : Nat) (v : Value) (L : List Ent) (k mk er rd : Nat) (n : NetV) (wmV : Value) (nm : Nat) (Mn : PoK → Option Value) : Prop where
  rnd : RD wr B g A (v.ownBlock.toList ++ N :: L.map Ent.blk) mk er rd n wmV nm Mn (roundS n.devs n.ls k)
  su : Sums wr B g A N base v L (endsOf n.ls) er [rd, nm, mk]
  ls : L.map Ent.S = (List.range k).map (roundS n.devs n.ls)
theorem NS.start {wr : World} {B g : Nat} {A : St} {N base mk er rd : Nat} {n : NetV} {nm : Nat} {Mn : PoK → Option Value} (h : RD wr B g A [N] mk er rd n (.map none) nm Mn (roundS n.devs n.ls 0)) (hx : Bx wr N #[.slice none 0 0, .pointer (some ⟨g, 0, none⟩)] 68) :
    NS wr B g A N base (.slice none 0 0) [] 0 mk er rd n (.map none) nm Mn := by
  obtain ⟨n1, n2, n3⟩ := h.ne
  have hmk := h.m.ap
  simp only [List.mem_cons, List.not_mem_nil, or_false, not_or] at n2 n3 hmk
  refine ⟨h, ⟨h.m.sa.mono (fun j hj => ?_), World.ownsRow_nil _ _ _ _, fun q hq => by (cases hq), hx, fun e he => by (cases he), ?_⟩, rfl⟩
  · simp only [Value.ownBlock, Option.map_none, Option.toList_none, List.nil_append, List.map_nil, List.mem_append, List.mem_cons, List.not_mem_nil, or_false] at hj ⊢
    omega
  · simp only [List.map_nil, List.append_nil, List.mem_cons, List.not_mem_nil, or_false, not_or]
    exact ⟨Ne.symm n2, Ne.symm n3, Ne.symm hmk.2.2⟩
end Go.Proofs.YtifkacnoiocebaaGreat
namespace Go.Proofs.YtifkacnoiocebaaGreat
open Go.Maps Go.RowKit
def codeP (p : P4) : Nat := p.src.toNat * 1024 + p.dst.toNat * 64 + p.sport.toNat * 8 + p.dport.toNat
theorem right_nats {p : P4} (h : rightB p = true) : ∃ a b c d : Nat, p = ⟨(a : Int), (b : Int), (c : Int), (d : Int)⟩ ∧ a < 16 ∧ b < 16 ∧ c < 8 ∧ d < 8 := by
  obtain ⟨a, b, c, d⟩ := p
  simp only [rightB, inR, Bool.and_eq_true, decide_eq_true_eq] at h
  refine ⟨a.toNat, b.toNat, c.toNat, d.toNat, ?_, by omega, by omega, by omega, by omega⟩
  simp only [P4.mk.injEq]
  omega
theorem code_lt {p : P4} (h : rightB p = true) : codeP p < 16384 := by
  obtain ⟨a, b, c, d, rfl, h1, h2, h3, h4⟩ := right_nats h
  simp only [codeP, Int.toNat_natCast]
  omega
theorem or_parts (a b k : Nat) (hb : b < 2 ^ k) : a * 2 ^ k ||| b = a * 2 ^ k + b := by
  rw [Nat.mul_comm, Nat.two_pow_add_eq_or_of_lt hb]
theorem or_code1 (a b : Nat) (ha : a < 16) (hb : b < 16) : Go.bits .or .i64 ((a * 1024 : Nat) : Int) ((b * 64 : Nat) : Int) = ((a * 1024 + b * 64 : Nat) : Int) := by
  rw [i64_or _ _ (by omega) (by omega)]
  have : a * 1024 ||| b * 64 = a * 1024 + b * 64 := or_parts a (b * 64) 10 (by omega)
  rw [this]
theorem or_code2 (a b c : Nat) (ha : a < 16) (hb : b < 16) (hc : c < 8) : Go.bits .or .i64 ((a * 1024 + b * 64 : Nat) : Int) ((c * 8 : Nat) : Int) = ((a * 1024 + b * 64 + c * 8 : Nat) : Int) := by
  rw [i64_or _ _ (by omega) (by omega)]
  have := or_parts (a * 16 + b) (c * 8) 6 (by omega)
  have e : (a * 16 + b) * 2 ^ 6 = a * 1024 + b * 64 := by omega
  rw [e] at this
  rw [this]
theorem or_code3 (a b c d : Nat) (ha : a < 16) (hb : b < 16) (hc : c < 8) (hd : d < 8) : Go.bits .or .i64 ((a * 1024 + b * 64 + c * 8 : Nat) : Int) (d : Int) = ((a * 1024 + b * 64 + c * 8 + d : Nat) : Int) := by
  rw [i64_or _ _ (by omega) (by omega)]
  have := or_parts (a * 128 + b * 8 + c) d 3 (by omega)
  have e : (a * 128 + b * 8 + c) * 2 ^ 3 = a * 1024 + b * 64 + c * 8 := by omega
  rw [e] at this
  rw [this]
theorem code_walk (p : P4) (W : World) : Calls Tryz.prog 35 #[.agg #[.int .i64 p.src, .int .i64 p.dst, .int .i64 p.sport, .int .i64 p.dport]] W fun e W' => e = .returned (.tuple #[.int .i64 (if rightB p then (codeP p : Int) else 0), .int .i64 (if rightB p then 0 else 1)]) ∧ RowKit.Below W.heap.size W W' := by
  have HC := hide (fun (w : World) => packetCheck_walk p w)
  cases hR : rightB p with
  | false =>
    simp only [hR] at HC
    obtain ⟨a, b, c, d⟩ := p
    clear hR
    go_enter Tryz.func35, Tryz.ntmps35
    go_wp2_with fail
    have hb0 := (RowKit.Below.refl W.heap.size W).alloc (Nat.le_refl _) (.cells #[.int .i64 a, .int .i64 b, .int .i64 c, .int .i64 d] 29)
    refine (HC.out _).mono ?_
    rintro e w1 ⟨rfl, hb⟩
    have HB := hide (hb0.trans (hb.mono hb0.size))
    clear hb hb0
    go_wp2
    go_ret2
    exact ⟨rfl, HB.out⟩
  | true =>
    simp only [hR] at HC
    obtain ⟨a, b, c, d, rfl, h1, h2, h3, h4⟩ := right_nats hR
    have e0 : codeP ⟨(a : Int), (b : Int), (c : Int), (d : Int)⟩ = a * 1024 + b * 64 + c * 8 + d := by simp only [codeP, Int.toNat_natCast]
    rw [e0]
    have q1 := or_code1 a b h1 h2
    have q2 := or_code2 a b c h1 h2 h3
    have q3 := or_code3 a b c d h1 h2 h3 h4
    have q4 : Go.bits .or .i64 (Go.bits .or .i64 (Go.bits .or .i64 ((a : Int) * 1024) ((b : Int) * 64)) ((c : Int) * 8)) (d : Int) = ((a * 1024 + b * 64 + c * 8 + d : Nat) : Int) := by
      rw [show ((a : Int) * 1024) = ((a * 1024 : Nat) : Int) by omega, show ((b : Int) * 64) = ((b * 64 : Nat) : Int) by omega, show ((c : Int) * 8) = ((c * 8 : Nat) : Int) by omega, q1, q2, q3]
    have HQ := hide q4
    clear hR e0 q1 q2 q3 q4
    go_enter Tryz.func35, Tryz.ntmps35
    go_wp2_with fail
    have hb0 := (RowKit.Below.refl W.heap.size W).alloc (Nat.le_refl _) (.cells #[.int .i64 (a : Int), .int .i64 (b : Int), .int .i64 (c : Int), .int .i64 (d : Int)] 29)
    have HX0 := hide (heap_alloc_new W (.cells #[.int .i64 (a : Int), .int .i64 (b : Int), .int .i64 (c : Int), .int .i64 (d : Int)] 29))
    refine (HC.out _).mono ?_
    rintro e w1 ⟨rfl, hb⟩
    have HB := hide (hb0.trans (hb.mono hb0.size))
    have hx := (hb.block W.heap.size (by simp)).trans HX0.out
    have x0 : w1.cell? ⟨W.heap.size, 0, none⟩ = some (.int .i64 (a : Int)) := by rw [cell_of_row _ _ _ _ _ _ hx]; rfl
    have x1 : w1.cell? ⟨W.heap.size, 1, none⟩ = some (.int .i64 (b : Int)) := by rw [cell_of_row _ _ _ _ _ _ hx]; rfl
    have x2 : w1.cell? ⟨W.heap.size, 2, none⟩ = some (.int .i64 (c : Int)) := by rw [cell_of_row _ _ _ _ _ _ hx]; rfl
    have x3 : w1.cell? ⟨W.heap.size, 3, none⟩ = some (.int .i64 (d : Int)) := by rw [cell_of_row _ _ _ _ _ _ hx]; rfl
    clear hb hb0 hx HX0
    go_wp2
    go_ret2
    refine ⟨?_, HB.out⟩
    show Ending.returned (.tuple #[.int .i64 (Go.bits .or .i64 (Go.bits .or .i64 (Go.bits .or .i64 ((a : Int) * 1024) ((b : Int) * 64)) ((c : Int) * 8)) (d : Int)), .int .i64 0]) = _
    rw [HQ.out]
    rfl
open Bdd
structure ReachM (w : World) (N B g : Nat) (A : St) (sA sc : Nat) (L : List Ent) (ks : List Pl) : Prop where
  sa : AS w B g A []
  v : A.vars = 14
  b0 : w.cell? ⟨N, 0, none⟩ = some (.slice (some ⟨sA, 0, none⟩) L.length sc)
  b1 : w.cell? ⟨N, 1, none⟩ = some (.pointer (some ⟨g, 0, none⟩))
  lt : N < w.heap.size ∧ sA < w.heap.size
  el : ∀ k e, L[k]? = some e → w.cell? ⟨sA, k, none⟩ = some (.map (some e.blk)) ∧ MapP w e.blk e.M ∧ MapOk A e.M e.S ks
  ne : 0 < L.length ∧ L.length ≤ 491521
theorem ReachM.below {w w' : World} {N B g : Nat} {A : St} {sA sc : Nat} {L : List Ent} {ks : List Pl} (h : ReachM w N B g A sA sc L ks) (hb : RowKit.Below w.heap.size w w') : ReachM w' N B g A sA sc L ks :=
  ⟨h.sa.below hb, h.v, (hb.cell (p := ⟨N, 0, none⟩) h.lt.1).trans h.b0, (hb.cell (p := ⟨N, 1, none⟩) h.lt.1).trans h.b1, ⟨Nat.lt_of_lt_of_le h.lt.1 hb.size, Nat.lt_of_lt_of_le h.lt.2 hb.size⟩,
    fun k e he => ⟨(hb.cell (p := ⟨sA, k, none⟩) h.lt.2).trans (h.el k e he).1, (h.el k e he).2.1.same (hb.block _ (h.el k e he).2.1.lt), (h.el k e he).2.2⟩, h.ne⟩
theorem Sums.reach {wr : World} {B g rb base : Nat} {A : St} {v : Value} {L : List Ent} {ks : List Pl} {more : List Nat} (h : Sums wr B g A rb base v L ks 0 more) (hv : A.vars = 14) (h0 : 0 < L.length) (hL : L.length ≤ 491521) : ∃ sA sc, ReachM wr rb B g A sA sc L ks ∧ base ≤ sA ∧ B ≤ rb ∧ ∀ e ∈ L, B ≤ e.blk := by
  obtain ⟨sA, sc, rfl, hsb, _⟩ := h.own.form (by omega)
  refine ⟨sA, sc, ⟨h.sa.mono (fun j hj => by cases hj), hv, h.bx.get 0 _ rfl, h.bx.get 1 _ rfl, ⟨h.bx.lt, (h.own.lt sA rfl).2⟩, fun k e he => ?_, h0, hL⟩, hsb, (h.sa.lt rb (by simp)).1, fun e he => (h.sa.lt e.blk (by
    simp only [List.mem_append, List.mem_cons, List.mem_map]
    exact .inr (.inr (.inr ⟨e, he, rfl⟩)))).1⟩
  have hm := h.ents e (List.mem_of_getElem? he)
  have hc := h.own.cells (g := sA) rfl k (.map (some e.blk)) (by simp [he])
  rw [addr_add, Nat.zero_add] at hc
  exact ⟨hc, hm.1, hm.2.ok⟩
structure ReachAt (w : World) (N : Nat) (ds : List Dev) (ls : List LinkV) (K : Nat) : Prop where
  ex : ∃ B g A sA sc L, ReachM w N B g A sA sc L (endsOf ls) ∧ L.map Ent.S = (List.range (K + 1)).map (roundS ds ls)
  fix : roundS ds ls (K + 1) = roundS ds ls K
  up : ∀ k, k < K → roundS ds ls (k + 1) ≠ roundS ds ls k
theorem ReachAt.below {w w' : World} {N : Nat} {ds : List Dev} {ls : List LinkV} {K : Nat} (h : ReachAt w N ds ls K) (hb : RowKit.Below w.heap.size w w') : ReachAt w' N ds ls K := by
  obtain ⟨B, g, A, sA, sc, L, h1, h2⟩ := h.ex
  exact ⟨⟨B, g, A, sA, sc, L, h1.below hb, h2⟩, h.fix, h.up⟩
structure ReachLo (Lo : Nat) (w : World) (N : Nat) (ds : List Dev) (ls : List LinkV) (K : Nat) : Prop where
  ex : ∃ B g A sA sc L, ReachM w N B g A sA sc L (endsOf ls) ∧ L.map Ent.S = (List.range (K + 1)).map (roundS ds ls) ∧ Lo ≤ B ∧ Lo ≤ N ∧ Lo ≤ sA ∧ ∀ e ∈ L, Lo ≤ e.blk
  fix : roundS ds ls (K + 1) = roundS ds ls K
  up : ∀ k, k < K → roundS ds ls (k + 1) ≠ roundS ds ls k
theorem ReachLo.at_ {Lo : Nat} {w : World} {N : Nat} {ds : List Dev} {ls : List LinkV} {K : Nat} (h : ReachLo Lo w N ds ls K) : ReachAt w N ds ls K := by
  obtain ⟨B, g, A, sA, sc, L, h1, h2, _⟩ := h.ex
  exact ⟨⟨B, g, A, sA, sc, L, h1, h2⟩, h.fix, h.up⟩
def ReachNewP (n : NetV) (most : Nat) (P : Bdd.Fn → Prop) (W : World) (e : Ending) (W' : World) : Prop := RowKit.Below W.heap.size W W' ∧
  ((∃ N K, e = .returned (.tuple #[.pointer (some ⟨N, 0, none⟩), .int .i64 0]) ∧ ReachLo W.heap.size W' N n.devs n.ls K) ∨
   (∃ A, e = .returned (.tuple #[.pointer none, .int .i64 6]) ∧ Ext (newSt 14 most) A ∧ NwP P (newSt 14 most) A ∧ A.len = A.most))
def scanI : List Bdd.Fn → Nat → Asg → Int
  | [], _, _ => -1
  | F :: t, k, a => if F a then (k : Int) else scanI t (k + 1) a
theorem scanI_range (l : List Bdd.Fn) (k : Nat) (a : Asg) : -1 ≤ scanI l k a ∧ scanI l k a ≤ k + l.length := by
  induction l generalizing k with
  | nil => simp only [scanI, List.length_nil]; omega
  | cons F t ih =>
    simp only [scanI, List.length_cons]
    have := ih (k + 1)
    split <;> omega
theorem scanI_some (l : List Bdd.Fn) (k : Nat) (a : Asg) : 0 ≤ scanI l k a ↔ ∃ F ∈ l, F a = true := by
  induction l generalizing k with
  | nil => simp [scanI]
  | cons F t ih =>
    simp only [scanI, List.mem_cons, exists_eq_or_imp]
    by_cases h : F a = true
    · rw [if_pos h]; exact ⟨fun _ => .inl h, fun _ => by omega⟩
    · rw [if_neg h, ih (k + 1)]
      exact ⟨.inr, fun hh => hh.resolve_left h⟩
theorem scanI_drop {l : List Bdd.Fn} {k j : Nat} {F : Bdd.Fn} (a : Asg) (h : l[k]? = some F) : scanI (l.drop k) j a = if F a then (j : Int) else scanI (l.drop (k + 1)) (j + 1) a := by
  obtain ⟨hk, e⟩ := List.getElem?_eq_some_iff.1 h
  rw [List.drop_eq_getElem_cons hk, e]
  rfl
def roundP (ds : List Dev) (ls : List LinkV) (K : Nat) (x : Pl) (p : P4) : Int := if rightB p then scanI ((List.range (K + 1)).map fun k => roundS ds ls k x) 0 (asgOf (codeP p)) else -1
theorem roundP_some (ds : List Dev) (ls : List LinkV) (K : Nat) (x : Pl) (p : P4) : 0 ≤ roundP ds ls K x p ↔ rightB p = true ∧ roundS ds ls K x (asgOf (codeP p)) = true := by
  unfold roundP
  by_cases h : rightB p = true
  · rw [if_pos h, scanI_some]
    constructor
    · rintro ⟨F, hF, hh⟩
      obtain ⟨k, hk, rfl⟩ := List.mem_map.1 hF
      refine ⟨h, ?_⟩
      rw [List.mem_range] at hk
      clear hF
      induction K with
      | zero =>
        have : k = 0 := by omega
        subst this; exact hh
      | succ K ih =>
        by_cases e : k = K + 1
        · subst e; exact hh
        · exact le_round ds ls K x _ (ih (by omega))
    · rintro ⟨_, hh⟩
      exact ⟨_, List.mem_map.2 ⟨K, List.mem_range.2 (by omega), rfl⟩, hh⟩
  · rw [if_neg h]
    exact ⟨fun h0 => absurd h0 (by decide), fun h0 => absurd h0.1 h⟩
theorem rounds_walk (N : Nat) (ds : List Dev) (ls : List LinkV) (K : Nat) (W : World) (h : ReachAt W N ds ls K) : Calls Tryz.prog 9 #[.pointer (some ⟨N, 0, none⟩)] W fun e W' => e = .returned (.int .i64 (K : Int)) ∧ W = W' := by
  obtain ⟨B, g, A, sA, sc, L, hm, hL⟩ := h.ex
  have hlen : L.length = K + 1 := by have := congrArg List.length hL; simpa using this
  have b0 := hm.b0
  have hne := hm.ne.2
  rw [hlen] at b0 hne
  clear h hm hL hlen
  go_enter Tryz.func9, Tryz.ntmps9
  go_wp2
  go_ret
  exact ⟨by simp only [Ending.returned.injEq, Value.int.injEq, true_and]; go_num, rfl⟩
theorem as_eval {w : World} {B g : Nat} {A : St} {bl : List Nat} (h : AS w B g A bl) (hv : A.vars = 14) {f c : Nat} {F : Bdd.Fn} (hf : IsF A f F) (hc : c < 16384) :
    Calls Tryz.prog 36 #[.pointer (some ⟨g, 0, none⟩), .int .i64 (f : Int), .int .i64 (c : Int)] w fun e W' => e = .returned (.tuple #[.bool (F (asgOf c)), .int .i64 0]) ∧ RowKit.Below w.heap.size w W' := by
  obtain ⟨nb, kb, ib, cap, K, T, har, hb⟩ := h.ar
  refine (eval_walk har f c hf.1 (by rw [hv]; exact hc)).mono fun e w' hq => ?_
  rw [hv, hf.2] at hq
  exact hq
theorem reachCount_walk (N : Nat) (ds : List Dev) (ls : List LinkV) (K : Nat) (x : Pl) (hx : poDom x) (W : World) (h : ReachAt W N ds ls K) : Calls Tryz.prog 14 #[.pointer (some ⟨N, 0, none⟩), .agg #[.int .i64 x.1, .int .i64 x.2]] W fun e W' => e = .returned (.int .i64 ((cntF 14 14 (roundS ds ls K x) : Nat) : Int)) ∧ RowKit.Below W.heap.size W W' := by
  obtain ⟨B, g, A, sA, sc, L, hm, hL⟩ := h.ex
  have hlen : L.length = K + 1 := by have := congrArg List.length hL; simpa using this
  obtain ⟨en, hen⟩ : ∃ en, L[K]? = some en := ⟨_, List.getElem?_eq_getElem (by omega)⟩
  have hS : en.S = roundS ds ls K := by
    have := congrArg (fun l => l[K]?) hL
    simp only [List.getElem?_map, hen, List.getElem?_range (show K < K + 1 by omega), Option.map_some] at this
    exact Option.some.inj this
  obtain ⟨y1, y2⟩ := x
  have hb0 := below_alloc2 W (.cells #[.int .i64 y1, .int .i64 y2] 27)
  have HB0 := hide hb0
  have HX0 := hide (Bx.new W #[.int .i64 y1, .int .i64 y2] 27)
  have HR := hide (h.below hb0)
  have HM := hide (hm.below hb0)
  have HF := hide (show IsF A (numAt en.M (y1, y2)) (roundS ds ls K (y1, y2)) from hS ▸ (hm.el K en hen).2.2.isF (y1, y2))
  have HE := hide hen
  have HI := hide (hm.el K en hen).2.2.ints
  have HV := hide hm.v
  have hK : K ≤ 491520 := by have := hm.ne.2; omega
  have HLN := hide hlen
  clear h hm hL hlen hen hS hb0
  go_enter Tryz.func14, Tryz.ntmps14
  go_wp2_with fail
  generalize World.alloc W _ = w1 at *
  refine wp_region_abs (by kernel_rfl) (by kernel_rfl) ?_
  intro T hT gt hg1 hgi
  have HGT := hide hg1
  have HGI := hide hgi
  clear hg1 hgi
  have k0 : ∀ t, (gt t).cell? ⟨N, 0, none⟩ = some (.slice (some ⟨sA, 0, none⟩) (K + 1) sc) := fun t => HLN.out ▸ (HM.out.below (HGT.out t)).b0
  have k1 : ∀ t, (gt t).cell? ⟨N, 1, none⟩ = some (.pointer (some ⟨g, 0, none⟩)) := fun t => (HM.out.below (HGT.out t)).b1
  have k2 : ∀ t, (gt t).cell? ⟨W.heap.size, 0, none⟩ = some (.int .i64 y1) := fun t => (HX0.out.below (HGT.out t)).get 0 _ rfl
  have k3 : ∀ t, (gt t).cell? ⟨W.heap.size, 1, none⟩ = some (.int .i64 y2) := fun t => (HX0.out.below (HGT.out t)).get 1 _ rfl
  have k4 : ∀ t, (gt t).cell? ⟨sA, K, none⟩ = some (.map (some en.blk)) := fun t => ((HM.out.below (HGT.out t)).el K en HE.out).1
  have k5 : ∀ t, (Instr.lookup 73 (.map (some en.blk)) (.agg #[.int .i64 y1, .int .i64 y2]) false).run Tryz.prog (gt t) = .ok (.int .i64 ((numAt en.M (y1, y2) : Nat) : Int)) (gt t) := fun t => MapIs.lookN ((HM.out.below (HGT.out t)).el K en HE.out).2.1 HI.out y1 y2 hx.1 hx.2
  repeat (go_big_quiet_step ((first | (go_at_call 9; exact inAbsSame (rounds_walk N ds ls K _ (HR.out.below (HGT.out _)))) | (go_at_call 42; exact inAbs HGT.out HGI.out (as_count (HM.out.below (HGT.out _)).sa HF.out)))))
  refine wpQuiet_nil ?_
  intro _ hw'
  obtain ⟨t, rfl⟩ := hw'
  have HBB := hide (HB0.out.trans ((HGT.out t).mono HB0.out.size))
  generalize gt t = w3 at *
  clear HGT HGI k0 k1 k2 k3 k4 k5
  go_wp2
  go_ret
  exact ⟨by rw [HV.out]; rfl, HBB.out⟩
theorem reachRound_walk (N : Nat) (ds : List Dev) (ls : List LinkV) (K : Nat) (x : Pl) (hx : poDom x) (p : P4) (W : World) (h : ReachAt W N ds ls K) : Calls Tryz.prog 10 #[.pointer (some ⟨N, 0, none⟩), .agg #[.int .i64 x.1, .int .i64 x.2], .agg #[.int .i64 p.src, .int .i64 p.dst, .int .i64 p.sport, .int .i64 p.dport]] W fun e W' => e = .returned (.int .i64 (roundP ds ls K x p)) ∧ RowKit.Below W.heap.size W W' := by
  obtain ⟨B, g, A, sA, sc, L, hm, hL⟩ := h.ex
  have hlen : L.length = K + 1 := by have := congrArg List.length hL; simpa using this
  have HRP := hide (show roundP ds ls K x p = if rightB p then scanI (L.map fun e => e.S x) 0 (asgOf (codeP p)) else -1 from by
    unfold roundP
    have e : (L.map fun e => e.S x) = (List.range (K + 1)).map fun k => roundS ds ls k x := by
      have := congrArg (List.map fun S : Pl → Bdd.Fn => S x) hL
      simpa [List.map_map, Function.comp_def] using this
    rw [e])
  have HC := hide (fun (w : World) => code_walk p w)
  have HCL := hide (fun h => code_lt (p := p) h)
  obtain ⟨y1, y2⟩ := x
  obtain ⟨a, b, c, d⟩ := p
  have hb0 := (below_alloc2 W (.cells #[.int .i64 y1, .int .i64 y2] 27)).trans ((below_alloc2 (W.alloc (.cells #[.int .i64 y1, .int .i64 y2] 27)) (.cells #[.int .i64 a, .int .i64 b, .int .i64 c, .int .i64 d] 29)).mono (below_alloc2 W _).size)
  have HB0 := hide hb0
  have HX0 := hide ((Bx.new W #[.int .i64 y1, .int .i64 y2] 27).below (below_alloc2 (W.alloc (.cells #[.int .i64 y1, .int .i64 y2] 27)) (.cells #[.int .i64 a, .int .i64 b, .int .i64 c, .int .i64 d] 29)))
  have HM := hide (hm.below hb0)
  have HV := hide hm.v
  have hK : L.length ≤ 491521 := hm.ne.2
  generalize roundP ds ls K (y1, y2) ⟨a, b, c, d⟩ = RP at *
  clear h hm hL hlen hb0
  go_enter Tryz.func10, Tryz.ntmps10
  go_wp2_with fail
  generalize World.alloc (World.alloc W _) _ = w1 at *
  refine (HC.out _).mono ?_
  rintro e w2 ⟨rfl, hb⟩
  have HB2 := hide (HB0.out.trans (hb.mono HB0.out.size))
  have HX2 := hide (HX0.out.below hb)
  have HM2 := hide (HM.out.below hb)
  clear hb HB0 HX0 HM HC
  cases hR : rightB ⟨a, b, c, d⟩ with
  | false =>
    have HF := hide (show RP = -1 from by have := HRP.out; rw [hR] at this; exact this)
    clear hR HRP
    go_wp2
    go_ret
    exact ⟨by rw [HF.out]; rfl, HB2.out⟩
  | true =>
    have hcl := HCL.out hR
    have HF := hide (show RP = scanI (L.map fun e => e.S (y1, y2)) 0 (asgOf (codeP ⟨a, b, c, d⟩)) from by have := HRP.out; rw [hR] at this; exact this)
    generalize codeP ⟨a, b, c, d⟩ = cc at *
    clear hR HRP HCL
    have b0 := HM2.out.b0
    go_wp2_with fail
    clear b0
    go_loopw [25] (fun i wr => ∃ (k : Nat), k ≤ L.length ∧ i = .int .i64 (k : Int) ∧ Hid (scanI ((L.map fun e => e.S (y1, y2)).drop k) k (asgOf cc) = RP) ∧ Hid (RowKit.Below w2.heap.size w2 wr)) (fun i _ => L.length - (intOf i).toNat)
    case atStart => exact ⟨0, Nat.zero_le _, rfl, hide HF.out.symm, hide (RowKit.Below.refl _ _)⟩
    case round =>
      obtain ⟨k, hk, rfl, HS, HB⟩ := hrel
      by_cases hlt : k < L.length
      · obtain ⟨en, hen⟩ : ∃ en, L[k]? = some en := ⟨_, List.getElem?_eq_getElem hlt⟩
        have HM3 := hide (HM2.out.below HB.out)
        have HX3 := hide (HX2.out.below HB.out)
        have HFE := hide (HM3.out.el k en hen)
        have HSD := hide (scanI_drop (l := L.map fun e => e.S (y1, y2)) (k := k) (j := k) (asgOf cc) (F := en.S (y1, y2)) (by simp [hen]))
        have HE := hide hen
        have c0 : wr.cell? ⟨sA, k, none⟩ = some (.map (some en.blk)) := HFE.out.1
        clear hen
        go_wp2_with fail
        clear c0
        refine wp_region_abs (by kernel_rfl) (by kernel_rfl) ?_
        intro T hT gt hg1 hgi
        have HGT := hide hg1
        have HGI := hide hgi
        clear hg1 hgi
        have k1 : ∀ t, (gt t).cell? ⟨N, 1, none⟩ = some (.pointer (some ⟨g, 0, none⟩)) := fun t => (HM3.out.below (HGT.out t)).b1
        have k2 : ∀ t, (gt t).cell? ⟨W.heap.size, 0, none⟩ = some (.int .i64 y1) := fun t => (HX3.out.below (HGT.out t)).get 0 _ rfl
        have k3 : ∀ t, (gt t).cell? ⟨W.heap.size, 1, none⟩ = some (.int .i64 y2) := fun t => (HX3.out.below (HGT.out t)).get 1 _ rfl
        have k5 : ∀ t, (Instr.lookup 73 (.map (some en.blk)) (.agg #[.int .i64 y1, .int .i64 y2]) false).run Tryz.prog (gt t) = .ok (.int .i64 ((numAt en.M (y1, y2) : Nat) : Int)) (gt t) := fun t => MapIs.lookN (HFE.out.2.1.same ((HGT.out t).block _ HFE.out.2.1.lt)) HFE.out.2.2.ints y1 y2 hx.1 hx.2
        repeat (go_big_quiet_step ((go_at_call 36; exact inAbs HGT.out HGI.out (as_eval (HM3.out.below (HGT.out _)).sa HV.out (HFE.out.2.2.isF (y1, y2)) hcl))))
        refine wpQuiet_nil ?_
        intro _ hw'
        obtain ⟨t, rfl⟩ := hw'
        have HBB := hide (HB.out.trans ((HGT.out t).mono HB.out.size))
        generalize gt t = w3 at *
        clear HGT HGI k1 k2 k3 k5 HM3 HX3 HFE
        have HSK := hide (HSD.out.symm.trans HS.out)
        clear HSD HS HB
        cases hb : en.S (y1, y2) (asgOf cc)
        · have HN := hide (show scanI ((L.map fun e => e.S (y1, y2)).drop (k + 1)) (k + 1) (asgOf cc) = RP from by have := HSK.out; rw [hb] at this; exact this)
          clear hb HSK
          go_wp2_with fail
          go_roundw
          case rel => exact ⟨k + 1, by omega, by go_num, HN, HBB⟩
          case measure => simp [intOf]; omega
        · have HN := hide (show (k : Int) = RP from by have := HSK.out; rw [hb] at this; exact this)
          clear hb HSK
          go_wp2
          go_ret
          exact ⟨by rw [← HN.out]; rfl, HB2.out.trans (HBB.out.mono HB2.out.size)⟩
      · have hk2 : k = L.length := by omega
        have HN := hide (show RP = -1 from by
          have := HS.out
          rw [List.drop_of_length_le (by simp; omega)] at this
          exact this.symm)
        go_wp2
        go_ret
        exact ⟨by rw [HN.out]; rfl, HB2.out.trans (HB.out.mono HB2.out.size)⟩
theorem of_walk (w : World) (c : Nat) (hc : c < 16384) :
    Calls Tryz.prog 38 #[.int .i64 c] w fun e W' => e = .returned (.tuple #[packVal c, .int .i64 0]) ∧ Below w.heap.size w W' := by
  have b1 : ∀ m : Nat, m < 9223372036854775808 → Go.bits .and .i64 (m : Int) 15 = ((m % 16 : Nat) : Int) := fun m hm => by
    have := i64_and m 15 hm (by omega)
    rw [show (15 : Nat) = 2 ^ 4 - 1 from rfl, Nat.and_two_pow_sub_one_eq_mod] at this
    exact this
  have b2 : ∀ m : Nat, m < 9223372036854775808 → Go.bits .and .i64 (m : Int) 7 = ((m % 8 : Nat) : Int) := fun m hm => by
    have := i64_and m 7 hm (by omega)
    rw [show (7 : Nat) = 2 ^ 3 - 1 from rfl, Nat.and_two_pow_sub_one_eq_mod] at this
    exact this
  have HV : Hid (packVal c = .agg #[.int .i64 ((c : Int) / 1024), .int .i64 (Go.bits .and .i64 ((c : Int) / 64) 15), .int .i64 (Go.bits .and .i64 ((c : Int) / 8) 7), .int .i64 (Go.bits .and .i64 (c : Int) 7)]) := hide (by
    have e1 : ((c / 1024 : Nat) : Int) = (c : Int) / 1024 := by omega
    have e2 : ((c : Int) / 64) = ((c / 64 : Nat) : Int) := by omega
    have e3 : ((c : Int) / 8) = ((c / 8 : Nat) : Int) := by omega
    rw [e2, e3, b1 _ (by omega), b2 _ (by omega), b2 _ (by omega), ← e1]; rfl)
  clear b1 b2
  go_enter Tryz.func38, Tryz.ntmps38
  go_wp2_with fail
  refine (within_walk _ _ _ true (by simp; omega)).mono ?_
  rintro e w1 ⟨rfl, rfl⟩
  go_wp2
  refine bodyPost_ret (v := .tuple #[.agg #[.int .i64 ((c : Int) / 1024), .int .i64 (Go.bits .and .i64 ((c : Int) / 64) 15), .int .i64 (Go.bits .and .i64 ((c : Int) / 8) 7), .int .i64 (Go.bits .and .i64 (c : Int) 7)], .int .i64 0]) (by simp [results, Tryz.results38, go_sem]) rfl ⟨by rw [HV.out], ?_⟩
  exact (Below.refl _ _).alloc (Nat.le_refl _) _
theorem right_nat2 (a b x y : Nat) (h1 : a ≤ 15) (h2 : b ≤ 15) (h3 : x ≤ 7) (h4 : y ≤ 7) : rightB ⟨(a : Int), (b : Int), (x : Int), (y : Int)⟩ = true := by
  simp only [rightB, inR, Bool.and_eq_true, decide_eq_true_eq]
  omega
theorem pk_right2 (c : Nat) (hc : c < 16384) : rightB (pk c) = true := right_nat2 (c / 1024) (c / 64 % 16) (c / 8 % 8) (c % 8) (by omega) (by omega) (by omega) (by omega)
theorem code_pk (c : Nat) (hc : c < 16384) : codeP (pk c) = c := by
  simp only [codeP, pk, Int.toNat_natCast]
  omega
def inS (ds : List Dev) (ls : List LinkV) (K : Nat) (x : Pl) (c : Nat) : Bool := roundS ds ls K x (asgOf c)
theorem roundP_in (ds : List Dev) (ls : List LinkV) (K : Nat) (x : Pl) (c : Nat) (hc : c < 16384) : decide (0 ≤ roundP ds ls K x (pk c)) = inS ds ls K x c := by
  rw [Bool.eq_iff_iff, decide_eq_true_eq, roundP_some, code_pk c hc]
  exact ⟨fun h => h.2, fun h => ⟨pk_right2 c hc, h⟩⟩
theorem scanI_snoc (F : Bdd.Fn) (a : Asg) : ∀ (l : List Bdd.Fn) (i : Nat), scanI (l ++ [F]) i a = if 0 ≤ scanI l i a then scanI l i a else if F a = true then ((i + l.length : Nat) : Int) else -1
  | [], i => by
    by_cases h : F a = true <;> simp [scanI, h]
  | G :: l, i => by
    by_cases h : G a = true
    · simp [scanI, h]
    · simp only [List.cons_append, scanI, h]
      simp only [Bool.false_eq_true, if_false]
      rw [scanI_snoc F a l (i + 1)]
      simp only [List.length_cons]
      rw [show i + 1 + l.length = i + (l.length + 1) by omega]
def tabF (ds : List Dev) (ls : List LinkV) (k : Nat) (x : Pl) (c : Nat) : Int := roundP ds ls k x (pk c)
theorem tab_succ (ds : List Dev) (ls : List LinkV) (k : Nat) (x : Pl) (c : Nat) (hc : c < 16384) : tabF ds ls (k + 1) x c = if 0 ≤ tabF ds ls k x c then tabF ds ls k x c else if inS ds ls (k + 1) x c = true then ((k + 1 : Nat) : Int) else -1 := by
  unfold tabF roundP inS
  rw [pk_right2 c hc, if_pos rfl, if_pos rfl, code_pk c hc, List.range_succ, List.map_append, List.map_cons, List.map_nil, scanI_snoc]
  simp
theorem tab_in (ds : List Dev) (ls : List LinkV) (k : Nat) (x : Pl) (c : Nat) (hc : c < 16384) : 0 ≤ tabF ds ls k x c ↔ inS ds ls k x c = true := by
  have := roundP_in ds ls k x c hc
  rw [← this, decide_eq_true_eq]
  exact Iff.rfl
theorem tab_le (ds : List Dev) (ls : List LinkV) (x : Pl) (c : Nat) (hc : c < 16384) : ∀ k, tabF ds ls k x c ≤ (k : Int)
  | 0 => by
    unfold tabF roundP
    rw [pk_right2 c hc, if_pos rfl]
    by_cases h : roundS ds ls 0 x (asgOf (codeP (pk c))) = true <;> simp [scanI, h]
  | k + 1 => by
    rw [tab_succ ds ls k x c hc]
    have := tab_le ds ls x c hc k
    split
    · omega
    · split <;> omega
theorem tab_was (ds : List Dev) (ls : List LinkV) (k : Nat) (x : Pl) (c : Nat) (hc : c < 16384) {v : Int} (hv : v = tabF ds ls k x c ∨ (tabF ds ls k x c < 0 ∧ v = ((k + 1 : Nat) : Int))) : (0 ≤ v ∧ v ≤ (k : Int)) ↔ inS ds ls k x c = true := by
  rw [← tab_in ds ls k x c hc]
  have := tab_le ds ls x c hc k
  rcases hv with rfl | ⟨h1, rfl⟩ <;> omega
theorem ext14 {F G : Bdd.Fn} (hF : Bdd.Below 14 F) (hG : Bdd.Below 14 G) (h : ∀ c, c < 16384 → F (asgOf c) = G (asgOf c)) : F = G := by
  funext x
  have e : ∀ u, u < 14 → x u = asgOf (codeN x 14) u := fun u hu => (codeN_bit x 14 u hu).symm
  rw [hF x _ e, hG x _ e]
  exact h _ (codeN_lt x 14)
theorem round_ext {ds : List Dev} {ls : List LinkV} {k : Nat} (h : ∀ x c, c < 16384 → inS ds ls (k + 1) x c = inS ds ls k x c) : roundS ds ls (k + 1) = roundS ds ls k := by
  funext x
  exact ext14 (S14.round ds ls (k + 1) x) (S14.round ds ls k x) (h x)
def ToldR (ds : List Dev) (ls : List LinkV) (k : Nat) (x : Pl) (c : Nat) : Prop :=
  ∃ (i : Nat) (d : Dev) (o : Nat), ds[i]? = some d ∧ peerF ls ((i : Int), (o : Int)) = some x ∧ Tells d (peerF ls ((i : Int), 1)).isSome (fun q c => inS ds ls k ((i : Int), (q : Int)) c) o (c / 1024) (c / 64 % 16) (c / 8 % 8) (c % 8)
theorem in_succ {ds : List Dev} {ls : List LinkV} (hd : ∀ d ∈ ds, DevOk d) (hr : ∀ d ∈ ds, ∀ r ∈ d.rules, r.ok) (k : Nat) (x : Pl) (c : Nat) (hc : c < 16384) : inS ds ls (k + 1) x c = true ↔ inS ds ls k x c = true ∨ ToldR ds ls k x c := by
  obtain ⟨hf, e⟩ := fld_of hc
  have h := round_succ (ls := ls) (x := x) hd hr hf k
  unfold inR4 at h
  rw [e] at h
  exact h
theorem tab_told {ds : List Dev} {ls : List LinkV} (hd : ∀ d ∈ ds, DevOk d) (hr : ∀ d ∈ ds, ∀ r ∈ d.rules, r.ok) (k : Nat) (x : Pl) (c : Nat) (hc : c < 16384) {D : Bool} (hD : D = true ↔ ToldR ds ls k x c) :
    (if tabF ds ls k x c < 0 ∧ D = true then ((k + 1 : Nat) : Int) else tabF ds ls k x c) = tabF ds ls (k + 1) x c := by
  rw [tab_succ ds ls k x c hc]
  have h1 := tab_in ds ls k x c hc
  have h2 := in_succ (ls := ls) hd hr k x c hc
  rw [← hD] at h2
  have hm : -1 ≤ tabF ds ls k x c := by
    unfold tabF roundP
    split
    · exact (scanI_range _ _ _).1
    · exact Int.le_refl _
  by_cases h0 : 0 ≤ tabF ds ls k x c
  · rw [if_neg (fun h => by omega), if_pos h0]
  · rw [if_neg h0]
    have h3 : ¬ inS ds ls k x c = true := fun h => h0 (h1.2 h)
    by_cases hd : D = true
    · rw [if_pos ⟨by omega, hd⟩, if_pos (h2.2 (.inr hd))]
    · rw [if_neg (fun h => hd h.2), if_neg (fun h => (h2.1 h).elim h3 hd)]
      omega
theorem told_none {ds : List Dev} {ls : List LinkV} (hd : ∀ d ∈ ds, DevOk d) (hr : ∀ d ∈ ds, ∀ r ∈ d.rules, r.ok) {k : Nat} (h : ∀ x c, c < 16384 → tabF ds ls k x c < 0 → ¬ ToldR ds ls k x c) : roundS ds ls (k + 1) = roundS ds ls k :=
  round_ext fun x c hc => by
    rw [Bool.eq_iff_iff, in_succ hd hr k x c hc]
    refine ⟨fun q => q.elim id fun q => ?_, .inl⟩
    have h1 := tab_in ds ls k x c hc
    by_cases h0 : 0 ≤ tabF ds ls k x c
    · exact h1.1 h0
    · exact absurd q (h x c hc (by omega))
theorem told_some {ds : List Dev} {ls : List LinkV} (hd : ∀ d ∈ ds, DevOk d) (hr : ∀ d ∈ ds, ∀ r ∈ d.rules, r.ok) {k : Nat} {x : Pl} {c : Nat} (hc : c < 16384) (h0 : tabF ds ls k x c < 0) (h : ToldR ds ls k x c) : roundS ds ls (k + 1) ≠ roundS ds ls k := fun e => by
  have h1 : inS ds ls (k + 1) x c = true := (in_succ hd hr k x c hc).2 (.inr h)
  unfold inS at h1
  rw [e] at h1
  have := (tab_in ds ls k x c hc).2 h1
  omega
end Go.Proofs.YtifkacnoiocebaaGreat
