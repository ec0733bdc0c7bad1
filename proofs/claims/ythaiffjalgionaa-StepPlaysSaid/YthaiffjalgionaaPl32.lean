/- wireward/wirelaw.StepPlays: whatever is handed in, it returns true, and leaves the input as it reads. -/
import Derived.Test.YthaiffjalgionaaPl31
/- (*wireref.Mind).Handle, whatever is handed in. -/
set_option linter.unusedVariables false
set_option linter.unusedSimpArgs false
namespace Go.Proofs.Ythaiffjalgionaa
open Go.RowKit

theorem mindHand_walk (g : Nat) (n : NetV) (A : Option Addr) (c : Nat) (L : List FactV) (i y : Int) (p : P4) (ch : Int) (W : World) (hM : MindAt W g n A c L) (hE : netE n.devs n.ls = 0) (hi : i64ok i) (hy : i64ok y) (hp : p.ok) (hch : i64ok ch) (hL : L.length ≤ 1000) :
    Calls Try.prog 14 #[.pointer (some ⟨g, 0, none⟩), .agg #[.int .i64 i, .int .i64 y], .agg #[.int .i64 p.src, .int .i64 p.dst, .int .i64 p.sport, .int .i64 p.dport], .int .i64 ch] W (MindP W g n A (mindS n.devs n.ls L i y p ch)) := by
  cases hpl : placeB n.devs (i, y)
  · exact mindHand_bad g n A c L i y p ch W hM hE hi hy hp hch hL (Or.inl hpl)
  cases hrp : rightB p
  · exact mindHand_bad g n A c L i y p ch W hM hE hi hy hp hch hL (Or.inr hrp)
  obtain ⟨r, hr⟩ : ∃ r, n.ds[i.toNat]? = some r := by
    have h1 := placeB_iff.1 hpl
    simp only at h1
    have h2 := devs_len hM.net
    have h3 := hM.net.dlen
    exact ⟨_, List.getElem?_eq_getElem (by omega)⟩
  have one : ∀ {C : DevV → Prop}, C r → ∀ r', n.ds[i.toNat]? = some r' → C r' := fun hC r' h => by
    rw [hr] at h
    obtain rfl := Option.some.inj h
    exact hC
  by_cases k2 : r.kind = 2
  · exact mindHand_rout g n A c L i y p ch W hM hE hi hy hp hch hL hpl hrp (one (C := fun r => r.kind = 2) k2)
  by_cases k3 : r.kind = 3
  · by_cases hy0 : y = 0
    · exact mindHand_fire0 g n A c L i y p ch W hM hE hi hy hp hch hL hpl hrp (one (C := fun r => r.kind = 3 ∧ y = 0) ⟨k3, hy0⟩)
    · exact mindHand_fire1 g n A c L i y p ch W hM hE hi hy hp hch hL hpl hrp (one (C := fun r => r.kind = 3 ∧ y ≠ 0) ⟨k3, hy0⟩)
  by_cases k4 : r.kind = 4
  · by_cases hy1 : y = 1
    · exact mindHand_nat1 g n A c L i y p ch W hM hE hi hy hp hch hL hpl hrp (one (C := fun r => r.kind = 4 ∧ y = 1) ⟨k4, hy1⟩)
    · exact mindHand_nat0 g n A c L i y p ch W hM hE hi hy hp hch hL hpl hrp (one (C := fun r => r.kind = 4 ∧ y ≠ 1) ⟨k4, hy1⟩)
  by_cases k5 : r.kind = 5
  · by_cases hy1 : y = 1
    · exact mindHand_bal1 g n A c L i y p ch W hM hE hi hy hp hch hL hpl hrp (one (C := fun r => r.kind = 5 ∧ y = 1) ⟨k5, hy1⟩)
    · by_cases hd : p.dst = r.addr
      · exact mindHand_bal0 g n A c L i y p ch W hM hE hi hy hp hch hL hpl hrp (one (C := fun r => r.kind = 5 ∧ y ≠ 1 ∧ p.dst = r.addr) ⟨k5, hy1, hd⟩)
      · exact mindHand_bal2 g n A c L i y p ch W hM hE hi hy hp hch hL hpl hrp (one (C := fun r => r.kind = 5 ∧ y ≠ 1 ∧ p.dst ≠ r.addr) ⟨k5, hy1, hd⟩)
  exact mindHand_other g n A c L i y p ch W hM hE hi hy hp hch hL hpl hrp (one (C := fun r => r.kind ≠ 2 ∧ r.kind ≠ 3 ∧ r.kind ≠ 4 ∧ r.kind ≠ 5) ⟨k2, k3, k4, k5⟩)
end Go.Proofs.Ythaiffjalgionaa

/- A memory and a mind: what they answer, under one name. -/
set_option linter.unusedVariables false
set_option linter.unusedSimpArgs false
namespace Go.Proofs.Ythaiffjalgionaa
open Go.RowKit

theorem PM.d {W w : World} {LB : List (Nat × Array Value)} {ga : Nat} {na : NetV} {fa oa ba : Nat} {M : MS} {k g : Nat} {n : NetV} {A : Option Addr} {c : Nat} {L : List FactV} (h : PM W LB ga na fa oa ba M k g n A c L w) : PM W LB ga na fa oa ba M k g n A c L w.drew := h.below (Below.refl _ _).drew
theorem hand_as (g : Nat) (n : NetV) (f o b : Nat) (M : MS) (k : Nat) (x : ActV) (S : HandS) {ds : List Dev} {ls : List LinkV} (hd : n.devs = ds) (hl : n.ls = ls) (hE : netE ds ls = 0) (hx : x.ok) (hk : k < 1000000) (hS : handS ds ls M x.dev x.port x.p x.ch = S) (W : World) (hM : MemAt W g n f o b M k) :
    Calls Try.prog 13 #[.pointer (some ⟨g, 0, none⟩), .agg #[.int .i64 x.dev, .int .i64 x.port], .agg #[.int .i64 x.p.src, .int .i64 x.p.dst, .int .i64 x.p.sport, .int .i64 x.p.dport], .int .i64 x.ch] W fun e W' =>
      e = .returned S.val ∧ MemAt W' g n f o b (M.learn S.kn) (k + 1) ∧ Near (Is3 f o b) W.heap.size W W' := by
  subst hd hl hS
  exact hand_walk g n f o b M k x.dev x.port x.p x.ch W hM hE hx.d hx.y hx.p hx.c hk
theorem mind_as (g : Nat) (n : NetV) (A : Option Addr) (c : Nat) (L : List FactV) (x : ActV) (S : HandS) (L' : List FactV) (hE : netE n.devs n.ls = 0) (hx : x.ok) (hk : L.length ≤ 1000) (hS : (mindS n.devs n.ls L x.dev x.port x.p x.ch).1.val = S.val) (hL : (mindS n.devs n.ls L x.dev x.port x.p x.ch).2 = L') (W : World) (hM : MindAt W g n A c L) :
    Calls Try.prog 14 #[.pointer (some ⟨g, 0, none⟩), .agg #[.int .i64 x.dev, .int .i64 x.port], .agg #[.int .i64 x.p.src, .int .i64 x.p.dst, .int .i64 x.p.sport, .int .i64 x.p.dport], .int .i64 x.ch] W fun e W' =>
      e = .returned S.val ∧ ∃ A' c', MindAt W' g n A' c' L' ∧ Near (fun k => k = g ∨ A.map (·.block) = some k) W.heap.size W W' ∧ ∀ a, A' = some a → A.map (·.block) = some a.block ∨ W.heap.size ≤ a.block := by
  subst hL
  rw [← hS]
  exact mindHand_walk g n A c L x.dev x.port x.p x.ch W hM hE hx.d hx.y hx.p hx.c hk
theorem forget_as (g : Nat) (n : NetV) (f o b : Nat) (M : MS) (k : Nat) (x : ActV) (R : Int) (M' : MS) {ds : List Dev} (hd : n.devs = ds) (hn : n.dn ≤ 10) (hx : x.ok) (h1 : (forgetS ds M x.dev x.p x.ch).1 = R) (h2 : (forgetS ds M x.dev x.p x.ch).2 = M') (W : World) (hM : MemAt W g n f o b M k) :
    Calls Try.prog 15 #[.pointer (some ⟨g, 0, none⟩), .int .i64 x.dev, .agg #[.int .i64 x.p.src, .int .i64 x.p.dst, .int .i64 x.p.sport, .int .i64 x.p.dport], .int .i64 x.ch] W fun e W' =>
      e = .returned (.int .i64 R) ∧ MemAt W' g n f o b M' k ∧ Near (Is3 f o b) W.heap.size W W' := by
  subst hd h1 h2
  exact forget_walk g n f o b M k x.dev x.p x.ch W hM hn hx.d hx.p hx.c
theorem mindForget_as (g : Nat) (n : NetV) (A : Option Addr) (c : Nat) (L : List FactV) (x : ActV) (R : Int) (L' : List FactV) (hn : n.dn ≤ 10) (hx : x.ok) (hk : L.length ≤ 1000) (h1 : (forgetM n.devs L x.dev x.p x.ch).1 = R) (h2 : (forgetM n.devs L x.dev x.p x.ch).2 = L') (W : World) (hM : MindAt W g n A c L) :
    Calls Try.prog 16 #[.pointer (some ⟨g, 0, none⟩), .int .i64 x.dev, .agg #[.int .i64 x.p.src, .int .i64 x.p.dst, .int .i64 x.p.sport, .int .i64 x.p.dport], .int .i64 x.ch] W fun e W' =>
      e = .returned (.int .i64 R) ∧ ∃ A' c', MindAt W' g n A' c' L' ∧ Near (fun k => k = g ∨ A.map (·.block) = some k) W.heap.size W W' ∧ ∀ a, A' = some a → A.map (·.block) = some a.block ∨ W.heap.size ≤ a.block := by
  subst h1 h2
  exact mindForget_walk g n A c L x.dev x.p x.ch W hM hn hx.d hx.c hk
theorem act_cells {w : World} {B b o n k : Nat} {l : List ActV} {x : ActV} (h : SlAt ActV.cells 8 w B (some ⟨b, o, none⟩) n l) (hx : l[k]? = some x) : w.cell? ⟨b, o + k * 8, none⟩ = some (.int .i64 x.kind) ∧ w.cell? ⟨b, o + k * 8 + 1, none⟩ = some (.int .i64 x.dev) ∧ w.cell? ⟨b, o + k * 8 + 2, none⟩ = some (.int .i64 x.port) ∧ w.cell? ⟨b, o + k * 8 + 3, none⟩ = some (.int .i64 x.p.src) ∧ w.cell? ⟨b, o + k * 8 + 4, none⟩ = some (.int .i64 x.p.dst) ∧ w.cell? ⟨b, o + k * 8 + 5, none⟩ = some (.int .i64 x.p.sport) ∧ w.cell? ⟨b, o + k * 8 + 6, none⟩ = some (.int .i64 x.p.dport) ∧ w.cell? ⟨b, o + k * 8 + 7, none⟩ = some (.int .i64 x.ch) := by
  obtain ⟨_, hg⟩ := h.get hx
  exact ⟨hg 0 _ rfl, hg 1 _ rfl, hg 2 _ rfl, hg 3 _ rfl, hg 4 _ rfl, hg 5 _ rfl, hg 6 _ rfl, hg 7 _ rfl⟩
end Go.Proofs.Ythaiffjalgionaa

/- wirelaw.StepPlays. -/
set_option linter.unusedVariables false
set_option linter.unusedSimpArgs false
namespace Go.Proofs.Ythaiffjalgionaa
open Go.RowKit Go.Maps

set_option maxRecDepth 100000 in
set_option maxHeartbeats 16000000 in
theorem stepPlays_walk (n : NetV) (A : Option Addr) (nl c : Nat) (l : List ActV) (W : World) (hn : NetAt W W.heap.size n) (hl : SlAt ActV.cells 8 W W.heap.size A nl l) (hlo : ∀ r ∈ l, r.ok) (hlc : nl ≤ c ∧ c ≤ maxLen) :
    Calls Try.prog 3 #[n.val, .slice A nl c] W fun e W' => e = .returned (.bool true) ∧ Below W.heap.size W W' := by
  have HNA := hide (fun (w' : World) (hb : Below W.heap.size W w') => show NetAt w' w'.heap.size n from hn.below hb hb.size)
  have HL := hide (fun (w' : World) (hb : Below W.heap.size W w') => hl.below hb hb.size)
  have HLN := hide hl.1
  have HLO := hide hlo
  have n3 : nl ≤ 9223372036854775807 := by have := hlc.1; have := hlc.2; unfold maxLen at *; omega
  have hc1 := hlc.1
  clear hn hl hlo hlc
  show Calls _ _ #[.agg #[.slice n.dA n.dn n.dc, .slice n.lA n.ln n.lc], _] W _
  go_enter Try.func3, Try.ntmps3
  go_wp2_with fail
  generalize hG : World.alloc W _ = W1
  have HX1 := hide (show BX W [(W.heap.size, #[.slice n.dA n.dn n.dc, .slice n.lA n.ln n.lc])] W1 from by
    have e := boxesV (B := W1.heap.size) [(#[.slice n.dA n.dn n.dc, .slice n.lA n.ln n.lc], 25)] W (W' := W1) (by rw [← hG]; exact Below.refl _ _)
    have hs : W1.heap.size = W.heap.size + 1 := by rw [← hG]; simp
    refine ⟨e.2 (by omega), fun x hx => ?_⟩
    obtain rfl := List.mem_singleton.1 hx
    exact ⟨e.1 0 _ _ rfl (by omega), by simp; omega⟩)
  clear hG
  obtain ⟨c0, c1⟩ : W1.cell? ⟨W.heap.size, 0, none⟩ = some (.slice n.dA n.dn n.dc) ∧ W1.cell? ⟨W.heap.size, 1, none⟩ = some (.slice n.lA n.ln n.lc) := ⟨(HX1.out.get 0 rfl).1 0 _ rfl, (HX1.out.get 0 rfl).1 1 _ rfl⟩
  by_cases hE : netE n.devs n.ls = 0
  case neg =>
    have HNW := hide (fun (w' : World) (h : NetAt w' w'.heap.size n) => stepNew_bad n w' h hE)
    have HRN := hide (fun (w' : World) (h : NetAt w' w'.heap.size n) => refNet_walk n w' h)
    obtain ⟨E, hEE⟩ : ∃ E, netE n.devs n.ls = E := ⟨_, rfl⟩
    rw [hEE] at HNW HRN hE
    clear hEE
    have e1 : (E == 0) = false := by simpa using hE
    have e2 : (E != 0) = true := by simpa using hE
    clear hE
    go_wp2_with fail
    refine (HNW.out W1 (HNA.out _ HX1.out.bl)).mono ?_
    rintro e w7 ⟨rfl, hb⟩
    have HX7 := hide (HX1.out.below hb)
    clear hb HX1 c0 c1
    obtain ⟨c0, c1⟩ : w7.cell? ⟨W.heap.size, 0, none⟩ = some (.slice n.dA n.dn n.dc) ∧ w7.cell? ⟨W.heap.size, 1, none⟩ = some (.slice n.lA n.ln n.lc) := ⟨(HX7.out.get 0 rfl).1 0 _ rfl, (HX7.out.get 0 rfl).1 1 _ rfl⟩
    go_wp2_with fail
    refine (HRN.out w7 (HNA.out _ HX7.out.bl)).mono ?_
    rintro e w8 ⟨rfl, hb⟩
    have HX8 := hide (HX7.out.below hb)
    clear hb HX7 c0 c1 HNW
    go_wp2
    go_ret
    exact ⟨ret_bool (by simp), HX8.out.bl⟩
  have HE := hide hE
  have HNW := hide (fun (w' : World) (h : NetAt w' w'.heap.size n) => stepNew_ok2 n w' h HE.out)
  have HRN := hide (fun (w' : World) (h : NetAt w' w'.heap.size n) => refNet_walk n w' h)
  rw [hE] at HRN
  clear hE
  go_wp2_with fail
  refine (HNW.out W1 (HNA.out _ HX1.out.bl)).mono ?_
  clear c0 c1
  rintro e w7 ⟨ga, fa, oa, ba, na, rfl, hMa, hda, hla, ⟨ha0, ha1, ha2, ha3⟩, hb1, hon⟩
  have HX7 := hide (HX1.out.below hb1)
  have HA := hide (And.intro hMa (And.intro hon (And.intro hda (And.intro hla (And.intro ha1 (And.intro ha2 ha3))))))
  have hs1 := HX1.out.bl.size
  clear hMa hb1 ha0 ha1 ha2 ha3 hda hla hon HNW
  obtain ⟨c0, c1⟩ : w7.cell? ⟨W.heap.size, 0, none⟩ = some (.slice n.dA n.dn n.dc) ∧ w7.cell? ⟨W.heap.size, 1, none⟩ = some (.slice n.lA n.ln n.lc) := ⟨(HX7.out.get 0 rfl).1 0 _ rfl, (HX7.out.get 0 rfl).1 1 _ rfl⟩
  go_wp2_with fail
  refine (HRN.out w7 (HNA.out _ HX7.out.bl)).mono ?_
  rintro e w8 ⟨rfl, hb⟩
  have HX8 := hide (HX7.out.below hb)
  have HM8 := hide (HA.out.1.below hb)
  clear hb c0 c1
  obtain ⟨c0, c1⟩ : w8.cell? ⟨W.heap.size, 0, none⟩ = some (.slice n.dA n.dn n.dc) ∧ w8.cell? ⟨W.heap.size, 1, none⟩ = some (.slice n.lA n.ln n.lc) := ⟨(HX8.out.get 0 rfl).1 0 _ rfl, (HX8.out.get 0 rfl).1 1 _ rfl⟩
  by_cases hl80 : 80 < nl
  case pos =>
    have h1 : (80 : Int) < (nl : Int) := by omega
    go_wp2
    go_ret
    exact ⟨ret_bool (by simp), HX8.out.bl⟩
  have d1 : decide ((80 : Int) < (nl : Int)) = false := by simp; omega
  go_wp2_with fail
  clear d1
  have HP0 := hide (PM.new HX8.out HM8.out ((HM8.out.net.on HA.out.2.1).weak (fun j e => e.2)) (fun j hj => by
    have h3 : W1.heap.size ≤ j := by have := HA.out.2.2.2.2; rcases hj with e | e | e <;> omega
    exact ⟨by omega, fun x hx e => by have := (HX1.out.bx x hx).2; omega⟩) (HNA.out _ HX8.out.bl) (((HNA.out W (Below.refl _ _)).on (K := 0) ⟨fun _ _ => Nat.zero_le _, fun _ _ => Nat.zero_le _, fun _ _ => ⟨fun _ _ => Nat.zero_le _, fun _ _ => Nat.zero_le _, fun _ _ => Nat.zero_le _⟩⟩).weak (fun j e => e.2)) 35)
  clear HX8 HM8 HX7 HX1 c0 c1
  -- LOOP
  have HNa := hide (show na.devs = n.devs ∧ na.ls = n.ls from ⟨HA.out.2.2.1, HA.out.2.2.2.1⟩)
  have HDN := hide (show n.dn ≤ 10 from by rw [← devs_len (HNA.out _ (Below.refl _ _))]; exact (netE_ok HE.out).dl)
  have HDA := hide (show na.dn ≤ 10 from by rw [← devs_len HP0.out.a.net, HNa.out.1, devs_len (HNA.out _ (Below.refl _ _))]; exact HDN.out)
  clear HA HRN HNA
  obtain ⟨G, hG⟩ : ∃ G, w8.heap.size = G := ⟨_, rfl⟩
  rw [hG] at HP0
  rw [hG]
  clear hG
  generalize World.alloc w8 _ = w9 at *
  have hl81 : nl ≤ 80 := by omega
  clear hl80
  go_loopw [5, 43] (fun m i wr => ∃ (k ga fa oa ba : Nat) (M : MS) (A1 : Option Addr) (cf : Nat) (L : List FactV), k ≤ nl ∧ i = .int .i64 k ∧ m = .pointer (some ⟨ga, 0, none⟩) ∧ Hid (PM W [(W.heap.size, #[.slice n.dA n.dn n.dc, .slice n.lA n.ln n.lc])] ga na fa oa ba M k G n A1 cf L wr) ∧ Hid (Rel n.devs M L ∧ L.length ≤ k)) (fun _ i _ => nl - (intOf i).toNat)
  case atStart => exact ⟨0, ga, fa, oa, ba, MS.empty, none, 0, [], Nat.zero_le _, rfl, rfl, HP0, hide ⟨Rel.empty _, Nat.le_refl _⟩⟩
  case round =>
    clear HP0
    obtain ⟨k, ga, fa, oa, ba, M, A1, cf, L, hk, rfl, rfl, HP, HR⟩ := hrel
    by_cases hlt : k < nl
    case neg =>
      go_wp2
      go_ret
      exact ⟨ret_bool (by simp), HP.out.box.bl⟩
    obtain ⟨x, hx⟩ : ∃ x, l[k]? = some x := ⟨_, List.getElem?_eq_getElem (by have := HLN.out; omega)⟩
    have hsl := HL.out _ HP.out.box.bl
    obtain ⟨bA, oA, rfl, hbB, _⟩ := hsl.2 (by omega)
    obtain ⟨q0, q1, q2, q3, q4, q5, q6, q7⟩ := act_cells hsl hx
    have HXK := hide (HLO.out x (List.mem_of_getElem? hx))
    clear hx hsl hbB
    by_cases h0 : x.kind = 0
    case pos =>
      have e0 : (x.kind == 0) = true := by simpa using h0
      clear h0
      obtain ⟨S, hS⟩ : ∃ S, handS n.devs n.ls M x.dev x.port x.p x.ch = S := ⟨_, rfl⟩
      obtain ⟨L', hL'⟩ : ∃ L', (mindS n.devs n.ls L x.dev x.port x.p x.ch).2 = L' := ⟨_, rfl⟩
      have hr := rel_hand (ls := n.ls) (i := x.dev) (y := x.port) (p := x.p) (ch := x.ch) HR.out.1
      have hll := mindS_len n.devs n.ls L x.dev x.port x.p x.ch
      rw [hS] at hr
      have HHA := hide (hand_as ga na fa oa ba M k x S HNa.out.1 HNa.out.2 HE.out HXK.out (by omega) hS)
      have HHB := hide (mind_as G n A1 cf L x S L' HE.out HXK.out (by have := HR.out.2; omega) hr.1 hL')
      rw [hL'] at hr hll
      have HR' := hide (show Rel n.devs (M.learn S.kn) L' ∧ L'.length ≤ k + 1 from ⟨hr.2, by have := HR.out.2; omega⟩)
      clear hS hL' hr hll HR
      obtain ⟨Se, ⟨St1, St2⟩, ⟨Sa, Sb, Sc, Sd⟩, Sk⟩ := S
      simp only [HandS.val] at HHA HHB HR'
      go_wp2_with fail
      have HF1 := hide (HP.out.al #[.int .i64 x.kind, .int .i64 x.dev, .int .i64 x.port, .int .i64 x.p.src, .int .i64 x.p.dst, .int .i64 x.p.sport, .int .i64 x.p.dport, .int .i64 x.ch] 41)
      obtain ⟨N, hN⟩ : ∃ N, wr.heap.size = N := ⟨_, rfl⟩
      rw [hN] at HF1
      rw [hN]
      clear hN HP q0 q1 q2 q3 q4 q5 q6 q7
      generalize World.alloc wr _ = w10 at *
      refine (HHA.out w10 HF1.out.a).mono ?_
      rintro e w11 ⟨rfl, hm, hn⟩
      have HF2 := hide (HF1.out.stepA hm hn)
      clear hm hn HF1 HHA
      have hq := fun (o' : Obj) => cells8 ((HF2.out.below ((Below.refl _ _).alloc (Nat.le_refl _) o')).box.get 0 rfl)
      have b1 := fun (o' : Obj) => (hq o').2.1
      have b2 := fun (o' : Obj) => (hq o').2.2.1
      have b3 := fun (o' : Obj) => (hq o').2.2.2.1
      have b4 := fun (o' : Obj) => (hq o').2.2.2.2.1
      have b5 := fun (o' : Obj) => (hq o').2.2.2.2.2.1
      have b6 := fun (o' : Obj) => (hq o').2.2.2.2.2.2.1
      have b7 := fun (o' : Obj) => (hq o').2.2.2.2.2.2.2
      clear hq
      go_wp2_with fail
      have HF3 := hide (HF2.out.al #[.int .i64 St1, .int .i64 St2, .int .i64 Sa, .int .i64 Sb, .int .i64 Sc, .int .i64 Sd] 43)
      obtain ⟨N1, hN1⟩ : ∃ N1, w11.heap.size = N1 := ⟨_, rfl⟩
      rw [hN1] at HF3
      rw [hN1]
      clear hN1 HF2 b1 b2 b3 b4 b5 b6 b7
      generalize World.alloc w11 _ = w12 at *
      refine (HHB.out w12 HF3.out.m).mono ?_
      rintro e w13 ⟨rfl, A2, cf2, hm, hn, hA⟩
      have HF4 := hide (HF3.out.stepM hm hn hA)
      clear hm hn hA HF3 HHB
      have hq := fun (o' : Obj) => (cells6 ((HF4.out.below ((Below.refl _ _).alloc (Nat.le_refl _) o')).box.get 0 rfl)).1
      have z0 := fun (o' : Obj) => (hq o').1
      have z1 := fun (o' : Obj) => (hq o').2.1
      have z2 := fun (o' : Obj) => (hq o').2.2.1
      have z3 := fun (o' : Obj) => (hq o').2.2.2.1
      have z4 := fun (o' : Obj) => (hq o').2.2.2.2.1
      have z5 := fun (o' : Obj) => (hq o').2.2.2.2.2
      clear hq
      have hba : Below w13.heap.size w13 (w13.alloc (.cells #[.int .i64 St1, .int .i64 St2, .int .i64 Sa, .int .i64 Sb, .int .i64 Sc, .int .i64 Sd] 43)) := (Below.refl _ _).alloc (Nat.le_refl _) _
      have HF5 := hide (HF4.out.below hba).less.less
      have n1 : N1 ≠ w13.heap.size := by have := (HF4.out.box.bx _ (List.mem_of_getElem? (i := 0) rfl)).2; simp only at this; omega
      clear hba HF4
      go_wp2
      go_roundw
      case rel => exact ⟨k + 1, ga, fa, oa, ba, _, A2, cf2, L', by omega, by go_num, rfl, HF5, HR'⟩
      case measure => simp [intOf]; omega
    have e0 : (x.kind == 0) = false := by simpa using h0
    clear h0
    by_cases h1 : x.kind = 1
    case pos =>
      have e1 : (x.kind == 1) = true := by simpa using h1
      clear h1
      obtain ⟨R, hR⟩ : ∃ R, (forgetS n.devs M x.dev x.p x.ch).1 = R := ⟨_, rfl⟩
      obtain ⟨M', hM'⟩ : ∃ M', (forgetS n.devs M x.dev x.p x.ch).2 = M' := ⟨_, rfl⟩
      obtain ⟨L', hL'⟩ : ∃ L', (forgetM n.devs L x.dev x.p x.ch).2 = L' := ⟨_, rfl⟩
      have hr := rel_forget (i := x.dev) (p := x.p) (q := x.ch) HR.out.1
      have hll := forgetM_len n.devs L x.dev x.p x.ch
      have HFA := hide (forget_as ga na fa oa ba M k x R M' HNa.out.1 HDA.out HXK.out hR hM')
      have HFB := hide (mindForget_as G n A1 cf L x R L' HDN.out HXK.out (by have := HR.out.2; omega) (hr.1.trans hR) hL')
      rw [hL'] at hr hll
      rw [hM'] at hr
      have HR' := hide (show Rel n.devs M' L' ∧ L'.length ≤ k + 1 from ⟨hr.2, by have := HR.out.2; omega⟩)
      clear hR hM' hL' hr hll HR
      go_wp2_with fail
      have HG := hide (HP.out.al #[.int .i64 x.kind, .int .i64 x.dev, .int .i64 x.port, .int .i64 x.p.src, .int .i64 x.p.dst, .int .i64 x.p.sport, .int .i64 x.p.dport, .int .i64 x.ch] 41)
      obtain ⟨N, hN⟩ : ∃ N, wr.heap.size = N := ⟨_, rfl⟩
      rw [hN] at HG
      rw [hN]
      clear hN HP q0 q1 q2 q3 q4 q5 q6 q7
      generalize World.alloc wr _ = w10 at *
      obtain ⟨b0, b1, b2, b3, b4, b5, b6, b7⟩ := cells8 (HG.out.box.get 0 rfl)
      go_region_held3 (fun w' => w'.cell? ⟨N, 1, none⟩ = some (.int .i64 x.dev) ∧ w'.cell? ⟨N, 3, none⟩ = some (.int .i64 x.p.src) ∧ w'.cell? ⟨N, 4, none⟩ = some (.int .i64 x.p.dst) ∧ w'.cell? ⟨N, 5, none⟩ = some (.int .i64 x.p.sport) ∧ w'.cell? ⟨N, 6, none⟩ = some (.int .i64 x.p.dport) ∧ w'.cell? ⟨N, 7, none⟩ = some (.int .i64 x.ch)) (go_keep) (first | (go_at_call 15; refine (HFA.out _ ?_).mono ?_; (first | exact HG.out.d.a | exact HG.out.a); rintro e wp ⟨rfl, hm, hn⟩; (first | have HG := hide (HG.out.d.stepA hm hn) | have HG := hide (HG.out.stepA hm hn)); obtain ⟨b0, b1, b2, b3, b4, b5, b6, b7⟩ := cells8 (HG.out.box.get 0 rfl)) | (go_at_call 16; refine (HFB.out _ ?_).mono ?_; (first | exact HG.out.d.m | exact HG.out.m); rintro e wp ⟨rfl, A2, cf2, hm, hn, hA⟩; (first | have HG := hide (HG.out.d.stepM hm hn hA) | have HG := hide (HG.out.stepM hm hn hA)); obtain ⟨b0, b1, b2, b3, b4, b5, b6, b7⟩ := cells8 (HG.out.box.get 0 rfl)))
      all_goals
        clear b0 b1 b2 b3 b4 b5 b6 b7 HFA HFB
        go_wp2
        go_roundw
        case rel => exact ⟨k + 1, ga, fa, oa, ba, M', _, _, L', by omega, by go_num, rfl, (by first | exact hide (HG.out.less.up (Nat.le_succ _)) | exact hide (HG.out.d.less.up (Nat.le_succ _))), HR'⟩
        case measure => simp [intOf]; omega
    have e1 : (x.kind == 1) = false := by simpa using h1
    clear h1
    by_cases h2 : x.kind = 2
    case pos =>
      have e2 : (x.kind == 2) = true := by simpa using h2
      clear h2
      go_wp2_with fail
      have HG := hide (HP.out.al #[.int .i64 x.kind, .int .i64 x.dev, .int .i64 x.port, .int .i64 x.p.src, .int .i64 x.p.dst, .int .i64 x.p.sport, .int .i64 x.p.dport, .int .i64 x.ch] 41)
      clear HP q0 q1 q2 q3 q4 q5 q6 q7
      generalize World.alloc wr _ = w10 at *
      refine (memCopy_walk ga na fa oa ba M k w10 HG.out.a).mono ?_
      rintro e w11 ⟨gc, fc, oc, bc, rfl, hm, hs, hb⟩
      have HF1 := hide ((HG.out.copy hm hs hb).less.up (Nat.le_succ _))
      have HR' := hide (show Rel n.devs M L ∧ L.length ≤ k + 1 from ⟨HR.out.1, by have := HR.out.2; omega⟩)
      clear hm hs hb HG HR
      go_wp2
      go_roundw
      case rel => exact ⟨k + 1, gc, fc, oc, bc, M, A1, cf, L, by omega, by go_num, rfl, HF1, HR'⟩
      case measure => simp [intOf]; omega
    have e2 : (x.kind == 2) = false := by simpa using h2
    clear h2
    have hba : Below wr.heap.size wr (wr.alloc (.cells #[.int .i64 x.kind, .int .i64 x.dev, .int .i64 x.port, .int .i64 x.p.src, .int .i64 x.p.dst, .int .i64 x.p.sport, .int .i64 x.p.dport, .int .i64 x.ch] 41)) := (Below.refl _ _).alloc (Nat.le_refl _) _
    have HF1 := hide ((HP.out.below hba).up (Nat.le_succ _))
    have HR' := hide (show Rel n.devs M L ∧ L.length ≤ k + 1 from ⟨HR.out.1, by have := HR.out.2; omega⟩)
    clear hba HP HR
    go_wp2
    go_roundw
    case rel => exact ⟨k + 1, ga, fa, oa, ba, M, A1, cf, L, by omega, by go_num, rfl, HF1, HR'⟩
    case measure => simp [intOf]; omega
end Go.Proofs.Ythaiffjalgionaa

set_option linter.unusedVariables false
set_option linter.unusedSimpArgs false
namespace Go.Proofs.Ythaiffjalgionaa
open Go.ChangeShapes Go.WideShapes Go.ChangeAt Go.RowKit Go.Maps

set_option maxRecDepth 100000 in
theorem stepPlays_lifted (os : Os) (started : os.Started) (H : Type) (enc : TypeId × Value → H) :
    ReturnsInHanded {} Try.checked os 3 .any (Rows.stepPlaysSpec.pre6 enc Try.prog Try.f3 Rows.stepPlaysRow.domain false) (Rows.stepPlaysSpec.post enc Try.prog Try.f3 false true false false) :=
  law_lifted (C := Try.checked) (tb := 4) Try.own started (by kernel_rfl) Try.func3 Try.laidOut (by kernel_rfl) rfl (by kernel_rfl) Try.underlying4
    (fun ds h => by
      match ds, h with
      | [_, _], _ => exact ⟨rfl, rfl, rfl⟩)
    (ChangeSpec.witness6 (enc := enc) (C := Try.checked) false ⟨#[], #[.agg #[.slice none 0 0, .slice none 0 0], .slice none 0 0], []⟩ 8 (by kernel_rfl) (by kernel_rfl) (by kernel_rfl) (by kernel_rfl))
    (fun W base args ds p hval0 hA0 hlt hsz => by
      have hval : ∀ (j : Nat) t v, Try.f3.params[j]? = some t → args[j]? = some v → Value.okWide Try.prog W .any base t v := hval0
      have hA : DataW.TrodAll enc Try.prog W 0 (fun _ => true) true Try.f3.params.toList args.toList ds p := hA0
      rw [Try.params3] at hA hval
      obtain ⟨v0, vs0, d0, ds0, p0, q0, hargs, rfl, rfl, h0, r0⟩ := args_cons hA
      obtain ⟨v1, vs1, d1, ds1, p1, q1, rfl, rfl, rfl, h1, r1⟩ := args_cons r0
      obtain ⟨rfl, rfl, rfl⟩ := args_nil r1
      obtain rfl : args = #[v0, v1] := arr_eq hargs
      obtain ⟨n0, hn0, rfl⟩ := open_net (hval 0 _ v0 rfl rfl) h0
      obtain ⟨A1, n1, c1, l1, rfl, hnc1, hcm1, hl1, hok1, _⟩ := open_acts (hval 1 _ v1 rfl rfl) h1
      exact stepPlays_walk n0 A1 n1 c1 l1 W hn0 hl1 hok1 ⟨hnc1, hcm1⟩)

theorem stepPlays_holds : Rows.StepPlaysSaid :=
  OpenClaim.holds_of_wide 3 Try.f3 rfl rfl rfl rfl rfl rfl rfl ⟨rfl, rfl, rfl, rfl, rfl⟩ rfl rfl rfl rfl rfl (by kernel_rfl) Try.func3 (by kernel_rfl)
    (of_decide_eq_true (by kernel_rfl)) (by unfold Func.isWrapper; first | (rw [if_pos (by decide +kernel)]; kernel_rfl) | (rw [if_neg (by decide +kernel)]; exact ⟨rfl, rfl⟩))
    (fun os started H enc _ => stepPlays_lifted os started H enc)
end Go.Proofs.Ythaiffjalgionaa
