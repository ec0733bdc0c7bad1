/- What a memory does on a chain, plainly; where a law with a memory stands. -/
import Derived.Test.YtidikopjfpioaaaLawChain
set_option linter.unusedVariables false
set_option linter.unusedSimpArgs false
namespace Go.Proofs.Ytidikopjfpioaaa
open Go.RowKit Go.Maps

/-! ### boxes and a memory beside them -/
structure BX (W : World) (L : List (Nat × Array Value)) (w : World) : Prop where
  bl : Below W.heap.size W w
  bx : ∀ x ∈ L, BoxV w x.1 x.2 ∧ x.1 < w.heap.size
theorem BX.below {W w w' : World} {L : List (Nat × Array Value)} (h : BX W L w) (hb : Below w.heap.size w w') : BX W L w' :=
  ⟨h.bl.trans (hb.mono h.bl.size), fun x hx => ⟨(h.bx x hx).1.below hb (h.bx x hx).2, Nat.lt_of_lt_of_le (h.bx x hx).2 hb.size⟩⟩
theorem BX.get {W w : World} {L : List (Nat × Array Value)} (h : BX W L w) (i : Nat) {x : Nat × Array Value} (hx : L[i]? = some x) : BoxV w x.1 x.2 := (h.bx x (List.mem_of_getElem? hx)).1
theorem BX.more {W w w' : World} {L : List (Nat × Array Value)} (h : BX W L w) (hb : Below w.heap.size w w') {N : Nat} {vs : Array Value} (hx : BoxV w' N vs) (hN : N < w'.heap.size) : BX W ((N, vs) :: L) w' :=
  ⟨(h.below hb).bl, fun x hm => by
    rcases List.mem_cons.1 hm with rfl | hm
    · exact ⟨hx, hN⟩
    · exact (h.below hb).bx x hm⟩
theorem BX.less {W w : World} {L : List (Nat × Array Value)} {x : Nat × Array Value} (h : BX W (x :: L) w) : BX W L w := ⟨h.bl, fun y hy => h.bx y (List.mem_cons_of_mem _ hy)⟩
structure FA (W : World) (L : List (Nat × Array Value)) (g : Nat) (n : NetV) (f o b : Nat) (M : MS) (k : Nat) (w : World) : Prop where
  box : BX W L w
  mem : MemAt w g n f o b M k
  ap : ∀ x ∈ L, ¬ Is3 f o b x.1
  lo : ∀ j, Is3 f o b j → W.heap.size ≤ j
section
variable {W w w' : World} {L : List (Nat × Array Value)} {g : Nat} {n : NetV} {f o b : Nat} {M M' : MS} {k k' : Nat}
theorem FA.below (h : FA W L g n f o b M k w) (hb : Below w.heap.size w w') : FA W L g n f o b M k w' := ⟨h.box.below hb, h.mem.below hb, h.ap, h.lo⟩
theorem FA.near (h : FA W L g n f o b M k w) (hm : MemAt w' g n f o b M' k') (hn : Near (Is3 f o b) w.heap.size w w') : FA W L g n f o b M' k' w' :=
  ⟨⟨((Near.of_below (p := Is3 f o b) h.box.bl).trans (hn.mono h.box.bl.size)).below (Nat.le_refl _) h.lo, fun x hx => ⟨(h.box.bx x hx).1.near hn (h.box.bx x hx).2 (h.ap x hx), Nat.lt_of_lt_of_le (h.box.bx x hx).2 hn.size⟩⟩, hm, h.ap, h.lo⟩
theorem FA.more (h : FA W L g n f o b M k w) {N : Nat} {vs : Array Value} (hx : BoxV w N vs) (hN : N < w.heap.size) (ha : ¬ Is3 f o b N) : FA W ((N, vs) :: L) g n f o b M k w :=
  ⟨h.box.more (Below.refl _ _) hx hN, h.mem, fun x hm => by
    rcases List.mem_cons.1 hm with rfl | hm
    · exact ha
    · exact h.ap x hm, h.lo⟩
theorem FA.less {x : Nat × Array Value} (h : FA W (x :: L) g n f o b M k w) : FA W L g n f o b M k w := ⟨h.box.less, h.mem, fun y hy => h.ap y (List.mem_cons_of_mem _ hy), h.lo⟩
theorem FA.up (h : FA W L g n f o b M k w) (hk : k ≤ k') : FA W L g n f o b M k' w := ⟨h.box, h.mem.more hk, h.ap, h.lo⟩
/-- Behind step.New. -/
theorem FA.new {w0 : World} (h : BX W L w0) (hm : MemAt w g n f o b M k) (hlo : w0.heap.size ≤ f ∧ w0.heap.size ≤ o ∧ w0.heap.size ≤ b) (hb : Below w0.heap.size w0 w) : FA W L g n f o b M k w :=
  ⟨h.below hb, hm, fun x hx e => by have := (h.bx x hx).2; rcases e with e | e | e <;> omega, fun j e => by have := h.bl.size; rcases e with e | e | e <;> omega⟩
theorem FA.hand (h : FA W L g n f o b M k w) (hE : netE n.devs n.ls = 0) {i y : Int} {p : P4} {ch : Int} (hi : i64ok i) (hy : i64ok y) (hp : p.ok) (hch : i64ok ch) (hk : k < 1000000) :
    Calls Try.prog 47 #[.pointer (some ⟨g, 0, none⟩), .agg #[.int .i64 i, .int .i64 y], .agg #[.int .i64 p.src, .int .i64 p.dst, .int .i64 p.sport, .int .i64 p.dport], .int .i64 ch] w fun e w' =>
      e = .returned (handS n.devs n.ls M i y p ch).val ∧ FA W L g n f o b (M.learn (handS n.devs n.ls M i y p ch).kn) (k + 1) w' :=
  (hand_walk g n f o b M k i y p ch w h.mem hE hi hy hp hch hk).mono fun e w' ⟨h1, h2, h3⟩ => ⟨h1, h.near h2 h3⟩
theorem FA.forget (h : FA W L g n f o b M k w) (hn : n.dn ≤ 10) {i q : Int} {p : P4} (hi : i64ok i) (hp : p.ok) (hq : i64ok q) :
    Calls Try.prog 51 #[.pointer (some ⟨g, 0, none⟩), .int .i64 i, .agg #[.int .i64 p.src, .int .i64 p.dst, .int .i64 p.sport, .int .i64 p.dport], .int .i64 q] w fun e w' =>
      e = .returned (.int .i64 (forgetS n.devs M i p q).1) ∧ FA W L g n f o b (forgetS n.devs M i p q).2 k w' :=
  (forget_walk g n f o b M k i p q w h.mem hn hi hp hq).mono fun e w' ⟨h1, h2, h3⟩ => ⟨h1, h.near h2 h3⟩
end

/-! ### the chain -/
theorem right_flip (p : P4) : rightB (flipP p) = rightB p := by
  obtain ⟨a, b, c, d⟩ := p
  simp only [rightB, flipP]
  cases inR a 0 15 <;> cases inR b 0 15 <;> cases inR c 0 7 <;> cases inR d 0 7 <;> rfl
theorem flip_flip (p : P4) : flipP (flipP p) = p := rfl
theorem flip_ok {p : P4} (h : p.ok) : (flipP p).ok := ⟨h.2.1, h.1, h.2.2.2, h.2.2.1⟩
theorem chain_in {d : Dev} {x y : Int} : placeB (chainD d) (1, y) = (decide (0 ≤ y) && decide (y < portsF d.kind)) := by
  simp [placeB, chainD, kindAt]
/-- The chain's answer is that of its middle. -/
theorem chain_hand (d : Dev) (M : MS) (y : Int) (p : P4) (ch : Int) (hy : 0 ≤ y ∧ y < portsF d.kind) (hp : rightB p = true) :
    handS (chainD d) chainL M 1 y p ch = goS chainL 1 (outS ⟨⟨#[100]⟩, d.kind, d.addr, d.pool, d.backs, d.rules, d.routes⟩ M 1 y p ch) :=
  handS_go (by rw [chain_in (x := 0)]; simp [hy]) hp rfl
theorem chain_wrong (d : Dev) (M : MS) (y : Int) (p : P4) (ch : Int) (hy : 0 ≤ y ∧ y < portsF d.kind) (hp : rightB p = false) : handS (chainD d) chainL M 1 y p ch = .bad 1 :=
  handS_right (by rw [chain_in (x := 0)]; simp [hy]) hp
theorem peer0 : peerF chainL (1, 0) = some (0, 0) := by decide
theorem peer1 : peerF chainL (1, 1) = some (2, 0) := by decide
theorem chain_net (d : Dev) (hd : devE ⟨⟨#[100]⟩, d.kind, d.addr, d.pool, d.backs, d.rules, d.routes⟩ = 0) (hk : portsF d.kind = 2) : netE (chainD d) chainL = 0 := by
  have h1 : namedB ⟨#[105, 110]⟩ = true := by decide
  have h2 : namedB ⟨#[100]⟩ = true := by decide
  have h3 : namedB ⟨#[111, 117, 116]⟩ = true := by decide
  have n1 : nameEq ⟨#[105, 110]⟩ ⟨#[100]⟩ = false := by simp [nameEq, ByteArray.toList_eq]
  have n2 : nameEq ⟨#[105, 110]⟩ ⟨#[111, 117, 116]⟩ = false := by simp [nameEq, ByteArray.toList_eq]
  have n3 : nameEq ⟨#[100]⟩ ⟨#[111, 117, 116]⟩ = false := by simp [nameEq, ByteArray.toList_eq]
  have v1 : devE ⟨⟨#[105, 110]⟩, 1, 1, 0, [], [], []⟩ = 0 := by decide
  have v3 : devE ⟨⟨#[111, 117, 116]⟩, 1, 2, 0, [], [], []⟩ = 0 := by decide
  have hds : devsE [] (chainD d) = 0 := by
    simp [devsE, chainD, h1, h2, h3, n1, n2, n3, v1, v3, hd]
  have hp : ∀ x : Int, placeB (chainD d) (1, x) = (decide (0 ≤ x) && decide (x < 2)) := fun x => by rw [chain_in (x := 0), hk]
  have p0 : placeB (chainD d) (0, 0) = true := by simp [placeB, chainD, kindAt, portsF]
  have p2 : placeB (chainD d) (2, 0) = true := by simp [placeB, chainD, kindAt, portsF]
  simp only [netE]
  rw [if_neg (by simp [chainD, chainL]), if_pos hds]
  simp [linksE, chainL, LinkV.e1, LinkV.e2, hp, p0, p2, takenB, eqP]
theorem chain_bad (d : Dev) (hd : devE ⟨⟨#[100]⟩, d.kind, d.addr, d.pool, d.backs, d.rules, d.routes⟩ ≠ 0) : netE (chainD d) chainL = devE ⟨⟨#[100]⟩, d.kind, d.addr, d.pool, d.backs, d.rules, d.routes⟩ := by
  have h1 : namedB ⟨#[105, 110]⟩ = true := by decide
  have h2 : namedB ⟨#[100]⟩ = true := by decide
  have n1 : nameEq ⟨#[105, 110]⟩ ⟨#[100]⟩ = false := by simp [nameEq, ByteArray.toList_eq]
  have v1 : devE ⟨⟨#[105, 110]⟩, 1, 1, 0, [], [], []⟩ = 0 := by decide
  have hds : devsE [] (chainD d) = devE ⟨⟨#[100]⟩, d.kind, d.addr, d.pool, d.backs, d.rules, d.routes⟩ := by
    simp [devsE, chainD, h1, h2, n1, v1, hd]
  simp only [netE]
  rw [if_neg (by simp [chainD, chainL]), if_neg (by rw [hds]; exact hd), hds]

/-! ### the fire's chain -/
def fireD (R : List RuleV) : Dev := ⟨⟨#[]⟩, 3, 0, 0, [], R, []⟩
theorem fire_dev (R : List RuleV) : devE ⟨⟨#[100]⟩, 3, 0, 0, [], R, []⟩ = if 8 < R.length then 2 else 0 := by
  by_cases h : 8 < R.length
  · simp [devE, addrB, backsB, backsOk, h]
  · simp [devE, addrB, backsB, backsOk, h, checkF, chkF]
theorem fire_net (R : List RuleV) (h : R.length ≤ 8) : netE (chainD (fireD R)) chainL = 0 :=
  chain_net (fireD R) (by show devE ⟨⟨#[100]⟩, 3, 0, 0, [], R, []⟩ = 0; rw [fire_dev, if_neg (by omega)]) rfl
theorem fire_many (R : List RuleV) (h : 8 < R.length) : netE (chainD (fireD R)) chainL = 2 :=
  (chain_bad (fireD R) (by show devE ⟨⟨#[100]⟩, 3, 0, 0, [], R, []⟩ ≠ 0; rw [fire_dev, if_pos h]; decide)).trans (by show devE ⟨⟨#[100]⟩, 3, 0, 0, [], R, []⟩ = 2; rw [fire_dev, if_pos h])
theorem fire_out_s (R : List RuleV) (M : MS) (p : P4) (ch : Int) (hp : rightB p = true) : handS (chainD (fireD R)) chainL M 1 0 p ch = if letsB R p = true then ⟨0, (2, 0), p, .flow (1, p)⟩ else .bad 7 := by
  rw [chain_hand _ _ _ _ _ (by simp [fireD, portsF]) hp]
  simp [outS, fireD, fireF, goS, peer1]
theorem fire_in_s (R : List RuleV) (M : MS) (p : P4) (ch : Int) (hp : rightB p = true) : handS (chainD (fireD R)) chainL M 1 1 p ch = if M.F (1, flipP p) = true then ⟨0, (0, 0), p, .nothing⟩ else .bad 7 := by
  rw [chain_hand _ _ _ _ _ (by simp [fireD, portsF]) hp]
  simp [outS, fireD, fireF, goS, peer0]
theorem fire_forget (R : List RuleV) (M : MS) (p : P4) (q : Int) : forgetS (chainD (fireD R)) M 1 p q = (if M.F (1, p) = true then 0 else 7, M.drop (.flow (1, p))) := rfl
end Go.Proofs.Ytidikopjfpioaaa
