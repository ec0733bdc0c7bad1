/- A part of the proof: StepKeys, StepStay, NetDevice. -/
import Derived.Test.YtifkacnoiocebaaNw3
set_option linter.unusedVariables false
set_option linter.unusedSimpArgs false
set_option maxRecDepth 100000
set_option maxHeartbeats 8000000
namespace Go.Proofs.Ytifkacnoiocebaa
open Go.Maps Go.RowKit Go.WideElems
abbrev OfK := Int × P4
def ofVal (k : OfK) : Value := .agg #[.int .i64 k.1, .int .i64 k.2.src, .int .i64 k.2.dst, .int .i64 k.2.sport, .int .i64 k.2.dport]
def ofDom (k : OfK) : Prop := i64ok k.1 ∧ k.2.ok
abbrev PoK := Int × Int
def poVal (k : PoK) : Value := .agg #[.int .i64 k.1, .int .i64 k.2]
def poDom (k : PoK) : Prop := i64ok k.1 ∧ i64ok k.2
theorem ofVal_inj (a b : OfK) (h : ofVal a = ofVal b) : a = b := by
  obtain ⟨a0, a1, a2, a3, a4⟩ := a
  obtain ⟨b0, b1, b2, b3, b4⟩ := b
  simp only [ofVal, Value.agg.injEq, Array.mk.injEq, List.cons.injEq, Value.int.injEq, true_and, and_true] at h
  obtain ⟨rfl, rfl, rfl, rfl, rfl⟩ := h
  rfl
theorem poVal_inj (a b : PoK) (h : poVal a = poVal b) : a = b := by
  obtain ⟨a0, a1⟩ := a
  obtain ⟨b0, b1⟩ := b
  simp only [poVal, Value.agg.injEq, Array.mk.injEq, List.cons.injEq, Value.int.injEq, true_and, and_true] at h
  obtain ⟨rfl, rfl⟩ := h
  rfl
theorem i64ok_wf {x : Int} (h : i64ok x) : (Lit.int .i64 x).wf = true := by
  have hx : -9223372036854775808 ≤ x ∧ x ≤ 9223372036854775807 := h
  simpa [Lit.wf, IntKind.min, IntKind.max, IntKind.signed, IntKind.bits] using hx
theorem rowOf : decide (115 < Try.prog.types.size) = true := by kernel_rfl
theorem rowPo : decide (118 < Try.prog.types.size) = true := by kernel_rfl
theorem atOf : Try.prog.keyTypeAt 3 115 = true := by kernel_rfl
theorem atPo : Try.prog.keyTypeAt 2 118 = true := by kernel_rfl
theorem keyOfT : Try.prog.keyType 115 = true := by kernel_rfl
theorem keyPoT : Try.prog.keyType 118 = true := by kernel_rfl
theorem cellsOf5 : Try.prog.cellsOf 115 = 5 := by kernel_rfl
theorem cellsPo2 : Try.prog.cellsOf 118 = 2 := by kernel_rfl
theorem lawOf : Keyed Try.prog 115 := Keyed.of_law (deep_law_laid Try.laidOut (m := 3) (by omega) (of_decide_eq_true rowOf) atOf (by rw [Try.underlying115]))
theorem lawPo : Keyed Try.prog 118 := Keyed.of_law (deep_law_laid Try.laidOut (m := 2) (by omega) (of_decide_eq_true rowPo) atPo (by rw [Try.underlying118]))
theorem pair_key {P : Program} {k i : TypeId} {f1 f2 : Field} (hu : P.underlying k = some (.struct #[f1, f2])) (h1 : f1.type = i ∧ f1.offset = 0 ∧ f1.name ≠ "_") (h2 : f2.type = i ∧ f2.offset = 1 ∧ f2.name ≠ "_")
    (hi : P.underlying i = some (.int .i64)) (hk : P.keyType k = true) (hc : P.cellsOf k = 2) (hci : P.cellsOf i = 1) (hm : ∃ m, P.types.size = m + 1) (t : PoK) (ht : poDom t) : ∃ kl, keyOf P k (poVal t) = some kl := by
  obtain ⟨a, b⟩ := t
  have w1 := i64ok_wf ht.1
  have w2 := i64ok_wf ht.2
  obtain ⟨m, hm⟩ := hm
  unfold keyOf
  rw [hu]
  simp [hk, Value.formed, hu, poVal, hc, Value.cells, hm, Program.keyLits, hci, hi, w1, w2, h1, h2]
theorem of_key {P : Program} {k i q : TypeId} {f1 f2 g1 g2 g3 g4 : Field} (hu : P.underlying k = some (.struct #[f1, f2])) (hq : P.underlying q = some (.struct #[g1, g2, g3, g4])) (h1 : f1.type = i ∧ f1.offset = 0 ∧ f1.name ≠ "_") (h2 : f2.type = q ∧ f2.offset = 1 ∧ f2.name ≠ "_")
    (j1 : g1.type = i ∧ g1.offset = 0 ∧ g1.name ≠ "_") (j2 : g2.type = i ∧ g2.offset = 1 ∧ g2.name ≠ "_") (j3 : g3.type = i ∧ g3.offset = 2 ∧ g3.name ≠ "_") (j4 : g4.type = i ∧ g4.offset = 3 ∧ g4.name ≠ "_")
    (hi : P.underlying i = some (.int .i64)) (hk : P.keyType k = true) (hc : P.cellsOf k = 5) (hcq : P.cellsOf q = 4) (hci : P.cellsOf i = 1) (hm : ∃ m, P.types.size = m + 2) (t : OfK) (ht : ofDom t) : ∃ kl, keyOf P k (ofVal t) = some kl := by
  obtain ⟨a, b, c, d, e⟩ := t
  have w1 := i64ok_wf ht.1
  have w2 := i64ok_wf ht.2.1
  have w3 := i64ok_wf ht.2.2.1
  have w4 := i64ok_wf ht.2.2.2.1
  have w5 := i64ok_wf ht.2.2.2.2
  simp only at w1 w2 w3 w4 w5
  obtain ⟨m, hm⟩ := hm
  unfold keyOf
  rw [hu]
  have hall : ∀ (i : Nat) (x : i < 4), ¬([g1, g2, g3, g4][i]'x).name = "_" := fun i x => match i, x with
    | 0, _ => j1.2.2
    | 1, _ => j2.2.2
    | 2, _ => j3.2.2
    | 3, _ => j4.2.2
  simp [hall, hk, Value.formed, hu, hq, ofVal, hc, hcq, Value.cells, hm, Program.keyLits, hci, hi, w1, w2, w3, w4, w5, h1, h2, j1, j2, j3, j4]
theorem types_succ2 : ∃ m, Try.prog.types.size = m + 2 := by
  have h : decide (115 < Try.prog.types.size) = true := rowOf
  have h2 := of_decide_eq_true h
  exact ⟨Try.prog.types.size - 2, by omega⟩
theorem types_succ1 : ∃ m, Try.prog.types.size = m + 1 := by
  obtain ⟨m, h⟩ := types_succ2
  exact ⟨m + 1, h⟩
theorem poKeys : KeysAny Try.prog 118 poVal poDom :=
  ⟨lawPo, pair_key Try.underlying118 ⟨rfl, rfl, by decide⟩ ⟨rfl, rfl, by decide⟩ Try.underlying3 keyPoT cellsPo2 cellsI types_succ1, poVal_inj⟩
theorem ofKeys : KeysAny Try.prog 115 ofVal ofDom :=
  ⟨lawOf, of_key Try.underlying115 Try.underlying38 ⟨rfl, rfl, by decide⟩ ⟨rfl, rfl, by decide⟩ ⟨rfl, rfl, by decide⟩ ⟨rfl, rfl, by decide⟩ ⟨rfl, rfl, by decide⟩ ⟨rfl, rfl, by decide⟩ Try.underlying3 keyOfT cellsOf5 Try.cellsPacket cellsI types_succ2, ofVal_inj⟩
end Go.Proofs.Ytifkacnoiocebaa
namespace Go.Proofs.Ytifkacnoiocebaa
open Go.RowKit
def StayOn (p : Nat → Prop) (w w' : World) : Prop := ∀ (a : Addr) (v : Value), p a.block → w.cell? a = some v → w'.cell? a = some v
section
variable {p : Nat → Prop} {w w' w'' : World} {B B' n : Nat} {A : Option Addr}
theorem cell_lt {a : Addr} {v : Value} (h : w.cell? a = some v) : a.block < w.heap.size := by
  by_cases hl : a.block < w.heap.size
  · exact hl
  · exfalso
    have hn : w.heap[a.block]? = none := Array.getElem?_eq_none (by omega)
    simp [World.cell?, hn] at h
theorem StayOn.trans (h : StayOn p w w') (h' : StayOn p w' w'') : StayOn p w w'' := fun a v hp hv => h' a v hp (h a v hp hv)
theorem StayOn.of_below (h : Below B w w') : StayOn (fun k => k < B) w w' := fun a v hp hv => (h.cell (p := a) hp).trans hv
theorem StayOn.of_grown {row : Option Nat} (h : w.grownBy w' row) : StayOn (fun k => some k ≠ row) w w' := fun a v hp hv =>
  (World.cell?_of_block (h.block a.block (cell_lt hv) hp)).trans hv
theorem StayOn.of_turned {b : Nat} (h : w.mapTurned w' b) : StayOn (fun _ => True) w w' := fun a v _ hv => by
  by_cases e : a.block = b
  · exfalso
    obtain ⟨es, clock, es', clock', hb, _⟩ := h
    simp [World.cell?, e, hb] at hv
  · exact StayOn.of_grown h.grown a v (by simpa using e) hv
theorem StayOn.of_set (q : Addr) (u : Value) : StayOn (fun k => k ≠ q.block) w (w.setCell q u) := fun a v hp hv =>
  (World.cell?_of_block (Below.heap_setCell w q u a.block hp)).trans hv
theorem StayOn.weak {q : Nat → Prop} (h : StayOn p w w') (hq : ∀ k, q k → p k) : StayOn q w w' := fun a v hp hv => h a v (hq _ hp) hv
theorem SlAt.stay {α : Type} {cells : α → List Value} {s : Nat} {l : List α} (h : SlAt cells s w B A n l) (hs : StayOn p w w') (hp : ∀ a, A = some a → p a.block) (hB : B ≤ B') : SlAt cells s w' B' A n l :=
  ⟨h.1, fun h0 => by
    obtain ⟨b, o, e, hb, hg⟩ := h.2 h0
    exact ⟨b, o, e, by omega, fun k r hr j v hv => hs _ _ (show p b from hp _ e) (hg k r hr j v hv)⟩⟩
theorem IntsAt.stay {l : List Int} (h : IntsAt w B A n l) (hs : StayOn p w w') (hp : ∀ a, A = some a → p a.block) (hB : B ≤ B') : IntsAt w' B' A n l :=
  ⟨h.1, h.2.1, fun h0 => by
    obtain ⟨b, o, e, hb, hg⟩ := h.2.2 h0
    exact ⟨b, o, e, by omega, fun k x hx => hs _ _ (show p b from hp _ e) (hg k x hx)⟩⟩
theorem RulesAt.stay {l : List RuleV} (h : RulesAt w B A n l) (hs : StayOn p w w') (hp : ∀ a, A = some a → p a.block) (hB : B ≤ B') : RulesAt w' B' A n l :=
  (h.sl.stay hs hp hB).rules h.2.1
structure DevOn (p : Nat → Prop) (d : DevV) : Prop where
  b : ∀ a, d.bA = some a → p a.block
  r : ∀ a, d.rA = some a → p a.block
  t : ∀ a, d.tA = some a → p a.block
theorem DevOn.weak {q : Nat → Prop} {d : DevV} (h : DevOn p d) (hq : ∀ k, p k → q k) : DevOn q d := ⟨fun a e => hq _ (h.b a e), fun a e => hq _ (h.r a e), fun a e => hq _ (h.t a e)⟩
theorem DevAt.stay {d : DevV} (h : DevAt w B d) (hs : StayOn p w w') (hp : DevOn p d) (hB : B ≤ B') : DevAt w' B' d :=
  ⟨h.nm, h.kd, h.ad, h.pl, h.bs.stay hs hp.b hB, h.rs.stay hs hp.r hB, h.ts.stay hs hp.t hB, h.tok, h.cb, h.cr, h.ct⟩
theorem NetAt.stay {m : NetV} (h : NetAt w B m) (hs : StayOn p w w') (hd : ∀ a, m.dA = some a → p a.block) (hl : ∀ a, m.lA = some a → p a.block) (ho : ∀ d ∈ m.ds, DevOn p d) (hB : B ≤ B') : NetAt w' B' m :=
  { ds := h.ds.stay hs hd hB, dok := fun d hm => (h.dok d hm).stay hs (ho d hm) hB, ls := h.ls.stay hs hl hB, lok := h.lok, cd := h.cd, cl := h.cl }
end
section
variable {α : Type} {P : Program} {kt : TypeId} {key : α → Value} {dom : α → Prop} {w w' : World} {b c : Nat} {M : α → Option Value}
theorem MapIs.below {B : Nat} (h : MapIs P kt key dom w b M) (hb : Below B w w') (hB : b < B) : MapIs P kt key dom w' b M := h.same (hb.block b hB)
theorem MapIs.turned (h : MapIs P kt key dom w b M) (ht : w.mapTurned w' c) (hne : b ≠ c) : MapIs P kt key dom w' b M := h.kept ht.grown (by simpa using hne)
end
theorem backs_val (nm : ByteArray) (kd ad : Int) (pl : Nat) (bA : Option Addr) (bn bc : Nat) (bs : List Int) (rA : Option Addr) (rn rc : Nat) (rs : List RuleV) (tA : Option Addr) (tn tc : Nat) (ts : List RouteV) (W : World)
    (hd : DevAt W W.heap.size ⟨nm, kd, ad, pl, bA, bn, bc, bs, rA, rn, rc, rs, tA, tn, tc, ts⟩) :
    Calls Try.prog 62 #[.agg #[.string nm, .int .i64 kd, .int .i64 ad, .int .u8 pl, .slice bA bn bc, .slice rA rn rc, .slice tA tn tc]] W fun e W' => e = .returned (.bool (backsB ⟨nm, kd, ad, pl, bs, rs, ts⟩)) ∧ RowKit.Below W.heap.size W W' := backs_walk _ W hd
def argB (d : Dev) : Bool := (addrB d.kind && !(decide (0 ≤ d.addr) && decide (d.addr < 16))) || (!addrB d.kind && (d.addr != 0)) || ((d.pool != 0) != (d.kind == 4))
def inA (a : Int) : Bool := decide (0 ≤ a) && decide (a < 16)
def argP (k a : Int) (p : Nat) : Bool := (addrB k && !inA a) || (!addrB k && (a != 0)) || ((p != 0) != (k == 4))
theorem argP_of {k a : Int} {p : Nat} {x y z u : Bool} (h1 : addrB k = x) (h2 : inA a = y) (h3 : (a != 0) = z) (h4 : ((p != 0) != (k == 4)) = u) : argP k a p = ((x && !y) || (!x && z) || u) := by
  unfold argP; rw [h1, h2, h3, h4]
theorem devE_one {d : Dev} (h : 1 ≤ d.kind ∧ d.kind ≤ 5) (h1 : argB d = true) : devE d = 1 := by
  unfold argB at h1
  unfold devE
  rw [if_neg (by simp; omega), if_pos h1]
theorem devE_go {d : Dev} (h : 1 ≤ d.kind ∧ d.kind ≤ 5) (h1 : argB d = false) : devE d =
    if 3 < d.backs.length then 2 else if backsB d = false then 1 else if (0 < d.rules.length ∧ d.kind ≠ 2 ∧ d.kind ≠ 3) ∨ (0 < d.routes.length ∧ d.kind ≠ 2) then 1 else if 8 < d.rules.length then 2 else checkF d.routes := by
  unfold argB at h1
  unfold devE
  rw [if_neg (by simp; omega), if_neg (by rw [h1]; simp)]
  simp [and_assoc]
theorem device_walk (d : DevV) (W : World) (hd : DevAt W W.heap.size d) :
    Calls Try.prog 51 #[d.val] W fun e W' => e = .returned (.int .i64 (devE d.dev)) ∧ RowKit.Below W.heap.size W W' := by
  obtain ⟨W0, hW0⟩ : ∃ W0, W0 = W.alloc (.cells #[.string d.name, .int .i64 d.kind, .int .i64 d.addr, .int .u8 d.pool, .slice d.bA d.bn d.bc, .slice d.rA d.rn d.rc, .slice d.tA d.tn d.tc] 61) := ⟨_, rfl⟩
  have HB0 := hide (show RowKit.Below W.heap.size W W0 from by rw [hW0]; exact (RowKit.Below.refl _ _).alloc (Nat.le_refl _) _)
  have HSZ := hide (show W0.heap.size = W.heap.size + 1 from by rw [hW0]; simp)
  have HQ := hide (fun (w' : World) (hb : RowKit.Below W0.heap.size W0 w') => show DBox w' W.heap.size d ∧ DevAt w' w'.heap.size d ∧ RowKit.Below W.heap.size W w' from by
    have h1 := HB0.out.trans (hb.mono (by rw [HSZ.out]; omega))
    exact ⟨(show DBox W0 W.heap.size d from by rw [hW0]; exact DBox.new W d _).below hb (by rw [HSZ.out]; omega), hd.below h1 h1.size, h1⟩)
  have hl1 := hd.bs.1
  have hl2 := hd.rs.1
  have hl3 := hd.ts.1
  have HL := hide (And.intro hl1 (And.intro hl2 hl3))
  have htc := hd.ct.1
  have hpl := hd.pl
  clear hd hl1 hl2 hl3
  obtain ⟨nm, kd, ad, pl, bA, bn, bc, bs, rA, rn, rc, rs, tA, tn, tc, ts⟩ := d
  simp only [DevV.val] at *
  have HR := hide (RowKit.Below.refl W0.heap.size W0)
  have HS0 := hide HB0.out.size
  clear HSZ
  subst hW0
  by_cases hk1 : kd < 1
  · have HF := hide (show devE (DevV.dev ⟨nm, kd, ad, pl, bA, bn, bc, bs, rA, rn, rc, rs, tA, tn, tc, ts⟩) = 1 from by simp [devE, DevV.dev, hk1])
    generalize devE _ = E at *
    have e1 : (kd == 1) = false := by simp; omega
    have e2 : (kd == 4) = false := by simp; omega
    have e3 : (kd == 5) = false := by simp; omega
    go_enter Try.func51, Try.ntmps51
    go_wp2
    go_ret
    exact ⟨ret_i64' HF.out.symm, HB0.out⟩
  by_cases hk2 : 5 < kd
  · have HF := hide (show devE (DevV.dev ⟨nm, kd, ad, pl, bA, bn, bc, bs, rA, rn, rc, rs, tA, tn, tc, ts⟩) = 1 from by simp [devE, DevV.dev, hk2])
    generalize devE _ = E at *
    have e1 : (kd == 1) = false := by simp; omega
    have e2 : (kd == 4) = false := by simp; omega
    have e3 : (kd == 5) = false := by simp; omega
    go_enter Try.func51, Try.ntmps51
    go_wp2
    go_ret
    exact ⟨ret_i64' HF.out.symm, HB0.out⟩
  have hkr : kd = 1 ∨ kd = 2 ∨ kd = 3 ∨ kd = 4 ∨ kd = 5 := by omega
  clear hk1 hk2
  rcases hkr with rfl | rfl | rfl | rfl | rfl
  · cases hw : (decide (0 ≤ ad) && decide (ad < 16))
    · have HF := hide (show devE (DevV.dev ⟨nm, 1, ad, pl, bA, bn, bc, bs, rA, rn, rc, rs, tA, tn, tc, ts⟩) = 1 from devE_one (by simp [DevV.dev]) (by show argP 1 ad pl = true; rw [argP_of rfl (show inA ad = false from hw) rfl rfl]; rfl))
      generalize devE _ = E at *
      go_enter Try.func51, Try.ntmps51
      go_wp2_with (go_at_call 52; refine (nwithin_walk _ _ _ false hw).mono ?_; rintro e w1 ⟨rfl, rfl⟩)
      go_ret
      exact ⟨ret_i64' HF.out.symm, (HQ.out _ HR.out).2.2⟩
    by_cases hp : pl = 0
    · subst hp
      have HE := hide (show devE (DevV.dev ⟨nm, 1, ad, 0, bA, bn, bc, bs, rA, rn, rc, rs, tA, tn, tc, ts⟩) = (if 3 < bn then 2 else if backsB ⟨nm, 1, ad, 0, bs, rs, ts⟩ = false then 1 else if (0 < rn ∧ (1 : Int) ≠ 2 ∧ (1 : Int) ≠ 3) ∨ (0 < tn ∧ (1 : Int) ≠ 2) then 1 else if 8 < rn then 2 else checkF ts) from by
        rw [devE_go (by simp [DevV.dev]) (by show argP 1 ad 0 = false; rw [argP_of rfl (show inA ad = true from hw) rfl rfl]; rfl)]
        simp only [DevV.dev, HL.out.1, HL.out.2.1, HL.out.2.2])
      generalize devE _ = E at *
      have HC := hide (backs_val nm 1 ad 0 bA bn bc bs rA rn rc rs tA tn tc ts _ (HQ.out _ HR.out).2.1)
      have HFB := hide (fun w1 hb => check22_any ts tA tn tc w1 htc (HQ.out _ hb).2.1.ts (HQ.out _ hb).2.1.tok)
      go_enter Try.func51, Try.ntmps51
      by_cases b3 : 3 < bn
      · have HF := hide (show E = 2 from by rw [HE.out]; simp [b3])
        clear HE
        go_wp2_with (go_at_call 52; refine (nwithin_walk _ _ _ true hw).mono ?_; rintro e w1 ⟨rfl, rfl⟩)
        go_ret
        exact ⟨ret_i64' HF.out.symm, (HQ.out _ HR.out).2.2⟩
      cases bb : backsB ⟨nm, 1, ad, 0, bs, rs, ts⟩
      · have HF := hide (show E = 1 from by rw [HE.out]; simp [b3, bb])
        clear HE
        rw [bb] at HC
        clear bb
        go_wp2_with (first | (go_at_call 52; refine (nwithin_walk _ _ _ true hw).mono ?_; rintro e w1 ⟨rfl, rfl⟩) | (go_at_call 62; refine HC.out.mono ?_; rintro e w1 ⟨rfl, hb⟩; have HR1 := hide hb; clear hb))
        go_ret
        exact ⟨ret_i64' HF.out.symm, (HQ.out _ HR1.out).2.2⟩
      rw [bb] at HC
      have HE2 := hide (show E = (if (0 < rn ∧ (1 : Int) ≠ 2 ∧ (1 : Int) ≠ 3) ∨ (0 < tn ∧ (1 : Int) ≠ 2) then 1 else if 8 < rn then 2 else checkF ts) from by rw [HE.out, bb]; simp [b3])
      clear HE bb
      have HCH := hide (fun w => aclCheck_walk rA rn rc w)
      by_cases r8 : 8 < rn
      · rw [if_pos r8] at HCH
        go_wp2_with (first | (go_at_call 52; refine (nwithin_walk _ _ _ true hw).mono ?_; rintro e w1 ⟨rfl, rfl⟩) | (go_at_call 62; refine HC.out.mono ?_; rintro e w1 ⟨rfl, hb⟩; have HR1 := hide hb; clear hb; have y := (HQ.out _ HR1.out).1; obtain ⟨y0, y1, y2, y3, y4, y5, y6⟩ := y; clear HC) | (go_at_call 63; refine (HCH.out _).mono ?_; rintro e w2 ⟨rfl, rfl⟩))
        all_goals
          go_ret
          exact ⟨ret_i64' (by rw [HE2.out]; first | rw [if_pos (by omega)] | rw [if_neg (by omega), if_pos r8]), (HQ.out _ HR1.out).2.2⟩
      · rw [if_neg r8] at HCH
        go_wp2_with (first | (go_at_call 52; refine (nwithin_walk _ _ _ true hw).mono ?_; rintro e w1 ⟨rfl, rfl⟩) | (go_at_call 62; refine HC.out.mono ?_; rintro e w1 ⟨rfl, hb⟩; have HR1 := hide hb; clear hb; have y := (HQ.out _ HR1.out).1; obtain ⟨y0, y1, y2, y3, y4, y5, y6⟩ := y; clear HC) | (go_at_call 63; refine (HCH.out _).mono ?_; rintro e w2 ⟨rfl, rfl⟩) | (go_at_call 64; refine (HFB.out _ HR1.out).mono ?_; rintro e w3 ⟨rfl, hb⟩; have HR2 := hide (HR1.out.trans (hb.mono HR1.out.size)); clear hb))
        all_goals
          go_ret
          first
            | exact ⟨ret_i64' (by rw [HE2.out, if_pos (by omega)]), (HQ.out _ HR1.out).2.2⟩
            | exact ⟨ret_i64' (by rw [HE2.out, if_neg (by omega), if_neg r8]), (HQ.out _ HR2.out).2.2⟩
    · have p1 : ((pl : Int) != 0) = true := by simp; omega
      have p2 : ((pl : Int) == 0) = false := by simp; omega
      · have HF := hide (show devE (DevV.dev ⟨nm, 1, ad, pl, bA, bn, bc, bs, rA, rn, rc, rs, tA, tn, tc, ts⟩) = 1 from devE_one (by simp [DevV.dev]) (by show argP 1 ad pl = true; rw [argP_of rfl (show inA ad = true from hw) rfl (show ((pl != 0) != ((1 : Int) == 4)) = true from by simp [hp])]; rfl))
        generalize devE _ = E at *
        go_enter Try.func51, Try.ntmps51
        go_wp2_with (go_at_call 52; refine (nwithin_walk _ _ _ true hw).mono ?_; rintro e w1 ⟨rfl, rfl⟩)
        go_ret
        exact ⟨ret_i64' HF.out.symm, (HQ.out _ HR.out).2.2⟩
  · by_cases ha : ad = 0
    · subst ha
      by_cases hp : pl = 0
      · subst hp
        have HE := hide (show devE (DevV.dev ⟨nm, 2, 0, 0, bA, bn, bc, bs, rA, rn, rc, rs, tA, tn, tc, ts⟩) = (if 3 < bn then 2 else if backsB ⟨nm, 2, 0, 0, bs, rs, ts⟩ = false then 1 else if (0 < rn ∧ (2 : Int) ≠ 2 ∧ (2 : Int) ≠ 3) ∨ (0 < tn ∧ (2 : Int) ≠ 2) then 1 else if 8 < rn then 2 else checkF ts) from by
          rw [devE_go (by simp [DevV.dev]) (by rfl)]
          simp only [DevV.dev, HL.out.1, HL.out.2.1, HL.out.2.2])
        generalize devE _ = E at *
        have HC := hide (backs_val nm 2 0 0 bA bn bc bs rA rn rc rs tA tn tc ts _ (HQ.out _ HR.out).2.1)
        have HFB := hide (fun w1 hb => check22_any ts tA tn tc w1 htc (HQ.out _ hb).2.1.ts (HQ.out _ hb).2.1.tok)
        go_enter Try.func51, Try.ntmps51
        by_cases b3 : 3 < bn
        · have HF := hide (show E = 2 from by rw [HE.out]; simp [b3])
          clear HE
          go_wp2_with fail
          go_ret
          exact ⟨ret_i64' HF.out.symm, (HQ.out _ HR.out).2.2⟩
        cases bb : backsB ⟨nm, 2, 0, 0, bs, rs, ts⟩
        · have HF := hide (show E = 1 from by rw [HE.out]; simp [b3, bb])
          clear HE
          rw [bb] at HC
          clear bb
          go_wp2_with (first | fail | (go_at_call 62; refine HC.out.mono ?_; rintro e w1 ⟨rfl, hb⟩; have HR1 := hide hb; clear hb))
          go_ret
          exact ⟨ret_i64' HF.out.symm, (HQ.out _ HR1.out).2.2⟩
        rw [bb] at HC
        have HE2 := hide (show E = (if (0 < rn ∧ (2 : Int) ≠ 2 ∧ (2 : Int) ≠ 3) ∨ (0 < tn ∧ (2 : Int) ≠ 2) then 1 else if 8 < rn then 2 else checkF ts) from by rw [HE.out, bb]; simp [b3])
        clear HE bb
        have HCH := hide (fun w => aclCheck_walk rA rn rc w)
        by_cases r8 : 8 < rn
        · rw [if_pos r8] at HCH
          go_wp2_with (first | fail | (go_at_call 62; refine HC.out.mono ?_; rintro e w1 ⟨rfl, hb⟩; have HR1 := hide hb; clear hb; have y := (HQ.out _ HR1.out).1; obtain ⟨y0, y1, y2, y3, y4, y5, y6⟩ := y; clear HC) | (go_at_call 63; refine (HCH.out _).mono ?_; rintro e w2 ⟨rfl, rfl⟩))
          all_goals
            go_ret
            exact ⟨ret_i64' (by rw [HE2.out]; first | rw [if_pos (by omega)] | rw [if_neg (by omega), if_pos r8]), (HQ.out _ HR1.out).2.2⟩
        · rw [if_neg r8] at HCH
          go_wp2_with (first | fail | (go_at_call 62; refine HC.out.mono ?_; rintro e w1 ⟨rfl, hb⟩; have HR1 := hide hb; clear hb; have y := (HQ.out _ HR1.out).1; obtain ⟨y0, y1, y2, y3, y4, y5, y6⟩ := y; clear HC) | (go_at_call 63; refine (HCH.out _).mono ?_; rintro e w2 ⟨rfl, rfl⟩) | (go_at_call 64; refine (HFB.out _ HR1.out).mono ?_; rintro e w3 ⟨rfl, hb⟩; have HR2 := hide (HR1.out.trans (hb.mono HR1.out.size)); clear hb))
          all_goals
            go_ret
            first
              | exact ⟨ret_i64' (by rw [HE2.out, if_pos (by omega)]), (HQ.out _ HR1.out).2.2⟩
              | exact ⟨ret_i64' (by rw [HE2.out, if_neg (by omega), if_neg r8]), (HQ.out _ HR2.out).2.2⟩
      · have p1 : ((pl : Int) != 0) = true := by simp; omega
        have p2 : ((pl : Int) == 0) = false := by simp; omega
        · have HF := hide (show devE (DevV.dev ⟨nm, 2, 0, pl, bA, bn, bc, bs, rA, rn, rc, rs, tA, tn, tc, ts⟩) = 1 from devE_one (by simp [DevV.dev]) (by show argP 2 0 pl = true; rw [argP_of rfl rfl rfl (show ((pl != 0) != ((2 : Int) == 4)) = true from by simp [hp])]; rfl))
          generalize devE _ = E at *
          go_enter Try.func51, Try.ntmps51
          go_wp2_with fail
          go_ret
          exact ⟨ret_i64' HF.out.symm, (HQ.out _ HR.out).2.2⟩
    · have a1 : ((ad : Int) != 0) = true := by simp; omega
      have a2 : ((ad : Int) == 0) = false := by simp; omega
      · have HF := hide (show devE (DevV.dev ⟨nm, 2, ad, pl, bA, bn, bc, bs, rA, rn, rc, rs, tA, tn, tc, ts⟩) = 1 from devE_one (by simp [DevV.dev]) (by show argP 2 ad pl = true; rw [argP_of rfl rfl a1 rfl]; simp [addrB]))
        generalize devE _ = E at *
        go_enter Try.func51, Try.ntmps51
        go_wp2_with fail
        go_ret
        exact ⟨ret_i64' HF.out.symm, (HQ.out _ HR.out).2.2⟩
  · by_cases ha : ad = 0
    · subst ha
      by_cases hp : pl = 0
      · subst hp
        have HE := hide (show devE (DevV.dev ⟨nm, 3, 0, 0, bA, bn, bc, bs, rA, rn, rc, rs, tA, tn, tc, ts⟩) = (if 3 < bn then 2 else if backsB ⟨nm, 3, 0, 0, bs, rs, ts⟩ = false then 1 else if (0 < rn ∧ (3 : Int) ≠ 2 ∧ (3 : Int) ≠ 3) ∨ (0 < tn ∧ (3 : Int) ≠ 2) then 1 else if 8 < rn then 2 else checkF ts) from by
          rw [devE_go (by simp [DevV.dev]) (by rfl)]
          simp only [DevV.dev, HL.out.1, HL.out.2.1, HL.out.2.2])
        generalize devE _ = E at *
        have HC := hide (backs_val nm 3 0 0 bA bn bc bs rA rn rc rs tA tn tc ts _ (HQ.out _ HR.out).2.1)
        have HFB := hide (fun w1 hb => check22_any ts tA tn tc w1 htc (HQ.out _ hb).2.1.ts (HQ.out _ hb).2.1.tok)
        go_enter Try.func51, Try.ntmps51
        by_cases b3 : 3 < bn
        · have HF := hide (show E = 2 from by rw [HE.out]; simp [b3])
          clear HE
          go_wp2_with fail
          go_ret
          exact ⟨ret_i64' HF.out.symm, (HQ.out _ HR.out).2.2⟩
        cases bb : backsB ⟨nm, 3, 0, 0, bs, rs, ts⟩
        · have HF := hide (show E = 1 from by rw [HE.out]; simp [b3, bb])
          clear HE
          rw [bb] at HC
          clear bb
          go_wp2_with (first | fail | (go_at_call 62; refine HC.out.mono ?_; rintro e w1 ⟨rfl, hb⟩; have HR1 := hide hb; clear hb))
          go_ret
          exact ⟨ret_i64' HF.out.symm, (HQ.out _ HR1.out).2.2⟩
        rw [bb] at HC
        have HE2 := hide (show E = (if (0 < rn ∧ (3 : Int) ≠ 2 ∧ (3 : Int) ≠ 3) ∨ (0 < tn ∧ (3 : Int) ≠ 2) then 1 else if 8 < rn then 2 else checkF ts) from by rw [HE.out, bb]; simp [b3])
        clear HE bb
        have HCH := hide (fun w => aclCheck_walk rA rn rc w)
        by_cases r8 : 8 < rn
        · rw [if_pos r8] at HCH
          go_wp2_with (first | fail | (go_at_call 62; refine HC.out.mono ?_; rintro e w1 ⟨rfl, hb⟩; have HR1 := hide hb; clear hb; have y := (HQ.out _ HR1.out).1; obtain ⟨y0, y1, y2, y3, y4, y5, y6⟩ := y; clear HC) | (go_at_call 63; refine (HCH.out _).mono ?_; rintro e w2 ⟨rfl, rfl⟩))
          all_goals
            go_ret
            exact ⟨ret_i64' (by rw [HE2.out]; first | rw [if_pos (by omega)] | rw [if_neg (by omega), if_pos r8]), (HQ.out _ HR1.out).2.2⟩
        · rw [if_neg r8] at HCH
          go_wp2_with (first | fail | (go_at_call 62; refine HC.out.mono ?_; rintro e w1 ⟨rfl, hb⟩; have HR1 := hide hb; clear hb; have y := (HQ.out _ HR1.out).1; obtain ⟨y0, y1, y2, y3, y4, y5, y6⟩ := y; clear HC) | (go_at_call 63; refine (HCH.out _).mono ?_; rintro e w2 ⟨rfl, rfl⟩) | (go_at_call 64; refine (HFB.out _ HR1.out).mono ?_; rintro e w3 ⟨rfl, hb⟩; have HR2 := hide (HR1.out.trans (hb.mono HR1.out.size)); clear hb))
          all_goals
            go_ret
            first
              | exact ⟨ret_i64' (by rw [HE2.out, if_pos (by omega)]), (HQ.out _ HR1.out).2.2⟩
              | exact ⟨ret_i64' (by rw [HE2.out, if_neg (by omega), if_neg r8]), (HQ.out _ HR2.out).2.2⟩
      · have p1 : ((pl : Int) != 0) = true := by simp; omega
        have p2 : ((pl : Int) == 0) = false := by simp; omega
        · have HF := hide (show devE (DevV.dev ⟨nm, 3, 0, pl, bA, bn, bc, bs, rA, rn, rc, rs, tA, tn, tc, ts⟩) = 1 from devE_one (by simp [DevV.dev]) (by show argP 3 0 pl = true; rw [argP_of rfl rfl rfl (show ((pl != 0) != ((3 : Int) == 4)) = true from by simp [hp])]; rfl))
          generalize devE _ = E at *
          go_enter Try.func51, Try.ntmps51
          go_wp2_with fail
          go_ret
          exact ⟨ret_i64' HF.out.symm, (HQ.out _ HR.out).2.2⟩
    · have a1 : ((ad : Int) != 0) = true := by simp; omega
      have a2 : ((ad : Int) == 0) = false := by simp; omega
      · have HF := hide (show devE (DevV.dev ⟨nm, 3, ad, pl, bA, bn, bc, bs, rA, rn, rc, rs, tA, tn, tc, ts⟩) = 1 from devE_one (by simp [DevV.dev]) (by show argP 3 ad pl = true; rw [argP_of rfl rfl a1 rfl]; simp [addrB]))
        generalize devE _ = E at *
        go_enter Try.func51, Try.ntmps51
        go_wp2_with fail
        go_ret
        exact ⟨ret_i64' HF.out.symm, (HQ.out _ HR.out).2.2⟩
  · cases hw : (decide (0 ≤ ad) && decide (ad < 16))
    · have HF := hide (show devE (DevV.dev ⟨nm, 4, ad, pl, bA, bn, bc, bs, rA, rn, rc, rs, tA, tn, tc, ts⟩) = 1 from devE_one (by simp [DevV.dev]) (by show argP 4 ad pl = true; rw [argP_of rfl (show inA ad = false from hw) rfl rfl]; rfl))
      generalize devE _ = E at *
      go_enter Try.func51, Try.ntmps51
      go_wp2_with (go_at_call 52; refine (nwithin_walk _ _ _ false hw).mono ?_; rintro e w1 ⟨rfl, rfl⟩)
      go_ret
      exact ⟨ret_i64' HF.out.symm, (HQ.out _ HR.out).2.2⟩
    by_cases hp : pl = 0
    · subst hp
      · have HF := hide (show devE (DevV.dev ⟨nm, 4, ad, 0, bA, bn, bc, bs, rA, rn, rc, rs, tA, tn, tc, ts⟩) = 1 from devE_one (by simp [DevV.dev]) (by show argP 4 ad 0 = true; rw [argP_of rfl (show inA ad = true from hw) rfl rfl]; rfl))
        generalize devE _ = E at *
        go_enter Try.func51, Try.ntmps51
        go_wp2_with (go_at_call 52; refine (nwithin_walk _ _ _ true hw).mono ?_; rintro e w1 ⟨rfl, rfl⟩)
        go_ret
        exact ⟨ret_i64' HF.out.symm, (HQ.out _ HR.out).2.2⟩
    · have p1 : ((pl : Int) != 0) = true := by simp; omega
      have p2 : ((pl : Int) == 0) = false := by simp; omega
      have HE := hide (show devE (DevV.dev ⟨nm, 4, ad, pl, bA, bn, bc, bs, rA, rn, rc, rs, tA, tn, tc, ts⟩) = (if 3 < bn then 2 else if backsB ⟨nm, 4, ad, pl, bs, rs, ts⟩ = false then 1 else if (0 < rn ∧ (4 : Int) ≠ 2 ∧ (4 : Int) ≠ 3) ∨ (0 < tn ∧ (4 : Int) ≠ 2) then 1 else if 8 < rn then 2 else checkF ts) from by
        rw [devE_go (by simp [DevV.dev]) (by show argP 4 ad pl = false; rw [argP_of rfl (show inA ad = true from hw) rfl (show ((pl != 0) != ((4 : Int) == 4)) = false from by simp [hp])]; rfl)]
        simp only [DevV.dev, HL.out.1, HL.out.2.1, HL.out.2.2])
      generalize devE _ = E at *
      have HC := hide (backs_val nm 4 ad pl bA bn bc bs rA rn rc rs tA tn tc ts _ (HQ.out _ HR.out).2.1)
      have HFB := hide (fun w1 hb => check22_any ts tA tn tc w1 htc (HQ.out _ hb).2.1.ts (HQ.out _ hb).2.1.tok)
      go_enter Try.func51, Try.ntmps51
      by_cases b3 : 3 < bn
      · have HF := hide (show E = 2 from by rw [HE.out]; simp [b3])
        clear HE
        go_wp2_with (go_at_call 52; refine (nwithin_walk _ _ _ true hw).mono ?_; rintro e w1 ⟨rfl, rfl⟩)
        go_ret
        exact ⟨ret_i64' HF.out.symm, (HQ.out _ HR.out).2.2⟩
      cases bb : backsB ⟨nm, 4, ad, pl, bs, rs, ts⟩
      · have HF := hide (show E = 1 from by rw [HE.out]; simp [b3, bb])
        clear HE
        rw [bb] at HC
        clear bb
        go_wp2_with (first | (go_at_call 52; refine (nwithin_walk _ _ _ true hw).mono ?_; rintro e w1 ⟨rfl, rfl⟩) | (go_at_call 62; refine HC.out.mono ?_; rintro e w1 ⟨rfl, hb⟩; have HR1 := hide hb; clear hb))
        go_ret
        exact ⟨ret_i64' HF.out.symm, (HQ.out _ HR1.out).2.2⟩
      rw [bb] at HC
      have HE2 := hide (show E = (if (0 < rn ∧ (4 : Int) ≠ 2 ∧ (4 : Int) ≠ 3) ∨ (0 < tn ∧ (4 : Int) ≠ 2) then 1 else if 8 < rn then 2 else checkF ts) from by rw [HE.out, bb]; simp [b3])
      clear HE bb
      have HCH := hide (fun w => aclCheck_walk rA rn rc w)
      by_cases r8 : 8 < rn
      · rw [if_pos r8] at HCH
        go_wp2_with (first | (go_at_call 52; refine (nwithin_walk _ _ _ true hw).mono ?_; rintro e w1 ⟨rfl, rfl⟩) | (go_at_call 62; refine HC.out.mono ?_; rintro e w1 ⟨rfl, hb⟩; have HR1 := hide hb; clear hb; have y := (HQ.out _ HR1.out).1; obtain ⟨y0, y1, y2, y3, y4, y5, y6⟩ := y; clear HC) | (go_at_call 63; refine (HCH.out _).mono ?_; rintro e w2 ⟨rfl, rfl⟩))
        all_goals
          go_ret
          exact ⟨ret_i64' (by rw [HE2.out]; first | rw [if_pos (by omega)] | rw [if_neg (by omega), if_pos r8]), (HQ.out _ HR1.out).2.2⟩
      · rw [if_neg r8] at HCH
        go_wp2_with (first | (go_at_call 52; refine (nwithin_walk _ _ _ true hw).mono ?_; rintro e w1 ⟨rfl, rfl⟩) | (go_at_call 62; refine HC.out.mono ?_; rintro e w1 ⟨rfl, hb⟩; have HR1 := hide hb; clear hb; have y := (HQ.out _ HR1.out).1; obtain ⟨y0, y1, y2, y3, y4, y5, y6⟩ := y; clear HC) | (go_at_call 63; refine (HCH.out _).mono ?_; rintro e w2 ⟨rfl, rfl⟩) | (go_at_call 64; refine (HFB.out _ HR1.out).mono ?_; rintro e w3 ⟨rfl, hb⟩; have HR2 := hide (HR1.out.trans (hb.mono HR1.out.size)); clear hb))
        all_goals
          go_ret
          first
            | exact ⟨ret_i64' (by rw [HE2.out, if_pos (by omega)]), (HQ.out _ HR1.out).2.2⟩
            | exact ⟨ret_i64' (by rw [HE2.out, if_neg (by omega), if_neg r8]), (HQ.out _ HR2.out).2.2⟩
  · cases hw : (decide (0 ≤ ad) && decide (ad < 16))
    · have HF := hide (show devE (DevV.dev ⟨nm, 5, ad, pl, bA, bn, bc, bs, rA, rn, rc, rs, tA, tn, tc, ts⟩) = 1 from devE_one (by simp [DevV.dev]) (by show argP 5 ad pl = true; rw [argP_of rfl (show inA ad = false from hw) rfl rfl]; rfl))
      generalize devE _ = E at *
      go_enter Try.func51, Try.ntmps51
      go_wp2_with (go_at_call 52; refine (nwithin_walk _ _ _ false hw).mono ?_; rintro e w1 ⟨rfl, rfl⟩)
      go_ret
      exact ⟨ret_i64' HF.out.symm, (HQ.out _ HR.out).2.2⟩
    by_cases hp : pl = 0
    · subst hp
      have HE := hide (show devE (DevV.dev ⟨nm, 5, ad, 0, bA, bn, bc, bs, rA, rn, rc, rs, tA, tn, tc, ts⟩) = (if 3 < bn then 2 else if backsB ⟨nm, 5, ad, 0, bs, rs, ts⟩ = false then 1 else if (0 < rn ∧ (5 : Int) ≠ 2 ∧ (5 : Int) ≠ 3) ∨ (0 < tn ∧ (5 : Int) ≠ 2) then 1 else if 8 < rn then 2 else checkF ts) from by
        rw [devE_go (by simp [DevV.dev]) (by show argP 5 ad 0 = false; rw [argP_of rfl (show inA ad = true from hw) rfl rfl]; rfl)]
        simp only [DevV.dev, HL.out.1, HL.out.2.1, HL.out.2.2])
      generalize devE _ = E at *
      have HC := hide (backs_val nm 5 ad 0 bA bn bc bs rA rn rc rs tA tn tc ts _ (HQ.out _ HR.out).2.1)
      have HFB := hide (fun w1 hb => check22_any ts tA tn tc w1 htc (HQ.out _ hb).2.1.ts (HQ.out _ hb).2.1.tok)
      go_enter Try.func51, Try.ntmps51
      by_cases b3 : 3 < bn
      · have HF := hide (show E = 2 from by rw [HE.out]; simp [b3])
        clear HE
        go_wp2_with (go_at_call 52; refine (nwithin_walk _ _ _ true hw).mono ?_; rintro e w1 ⟨rfl, rfl⟩)
        go_ret
        exact ⟨ret_i64' HF.out.symm, (HQ.out _ HR.out).2.2⟩
      cases bb : backsB ⟨nm, 5, ad, 0, bs, rs, ts⟩
      · have HF := hide (show E = 1 from by rw [HE.out]; simp [b3, bb])
        clear HE
        rw [bb] at HC
        clear bb
        go_wp2_with (first | (go_at_call 52; refine (nwithin_walk _ _ _ true hw).mono ?_; rintro e w1 ⟨rfl, rfl⟩) | (go_at_call 62; refine HC.out.mono ?_; rintro e w1 ⟨rfl, hb⟩; have HR1 := hide hb; clear hb))
        go_ret
        exact ⟨ret_i64' HF.out.symm, (HQ.out _ HR1.out).2.2⟩
      rw [bb] at HC
      have HE2 := hide (show E = (if (0 < rn ∧ (5 : Int) ≠ 2 ∧ (5 : Int) ≠ 3) ∨ (0 < tn ∧ (5 : Int) ≠ 2) then 1 else if 8 < rn then 2 else checkF ts) from by rw [HE.out, bb]; simp [b3])
      clear HE bb
      have HCH := hide (fun w => aclCheck_walk rA rn rc w)
      by_cases r8 : 8 < rn
      · rw [if_pos r8] at HCH
        go_wp2_with (first | (go_at_call 52; refine (nwithin_walk _ _ _ true hw).mono ?_; rintro e w1 ⟨rfl, rfl⟩) | (go_at_call 62; refine HC.out.mono ?_; rintro e w1 ⟨rfl, hb⟩; have HR1 := hide hb; clear hb; have y := (HQ.out _ HR1.out).1; obtain ⟨y0, y1, y2, y3, y4, y5, y6⟩ := y; clear HC) | (go_at_call 63; refine (HCH.out _).mono ?_; rintro e w2 ⟨rfl, rfl⟩))
        all_goals
          go_ret
          exact ⟨ret_i64' (by rw [HE2.out]; first | rw [if_pos (by omega)] | rw [if_neg (by omega), if_pos r8]), (HQ.out _ HR1.out).2.2⟩
      · rw [if_neg r8] at HCH
        go_wp2_with (first | (go_at_call 52; refine (nwithin_walk _ _ _ true hw).mono ?_; rintro e w1 ⟨rfl, rfl⟩) | (go_at_call 62; refine HC.out.mono ?_; rintro e w1 ⟨rfl, hb⟩; have HR1 := hide hb; clear hb; have y := (HQ.out _ HR1.out).1; obtain ⟨y0, y1, y2, y3, y4, y5, y6⟩ := y; clear HC) | (go_at_call 63; refine (HCH.out _).mono ?_; rintro e w2 ⟨rfl, rfl⟩) | (go_at_call 64; refine (HFB.out _ HR1.out).mono ?_; rintro e w3 ⟨rfl, hb⟩; have HR2 := hide (HR1.out.trans (hb.mono HR1.out.size)); clear hb))
        all_goals
          go_ret
          first
            | exact ⟨ret_i64' (by rw [HE2.out, if_pos (by omega)]), (HQ.out _ HR1.out).2.2⟩
            | exact ⟨ret_i64' (by rw [HE2.out, if_neg (by omega), if_neg r8]), (HQ.out _ HR2.out).2.2⟩
    · have p1 : ((pl : Int) != 0) = true := by simp; omega
      have p2 : ((pl : Int) == 0) = false := by simp; omega
      · have HF := hide (show devE (DevV.dev ⟨nm, 5, ad, pl, bA, bn, bc, bs, rA, rn, rc, rs, tA, tn, tc, ts⟩) = 1 from devE_one (by simp [DevV.dev]) (by show argP 5 ad pl = true; rw [argP_of rfl (show inA ad = true from hw) rfl (show ((pl != 0) != ((5 : Int) == 4)) = true from by simp [hp])]; rfl))
        generalize devE _ = E at *
        go_enter Try.func51, Try.ntmps51
        go_wp2_with (go_at_call 52; refine (nwithin_walk _ _ _ true hw).mono ?_; rintro e w1 ⟨rfl, rfl⟩)
        go_ret
        exact ⟨ret_i64' HF.out.symm, (HQ.out _ HR.out).2.2⟩
end Go.Proofs.Ytifkacnoiocebaa
