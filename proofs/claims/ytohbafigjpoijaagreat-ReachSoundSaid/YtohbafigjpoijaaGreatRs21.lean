/- A part of the proof: StepKnow, Chain, StepSmall, StepF, PkCode, StepMine, LawMine. -/
import Derived.Test.YtohbafigjpoijaaGreatRs20
import Derived.Deep.MidRow
import Derived.Shelf.Abstract
set_option linter.unusedVariables false
set_option linter.unusedSimpArgs false
set_option maxRecDepth 100000
set_option maxHeartbeats 8000000
namespace Go.Proofs.YtohbafigjpoijaaGreat
open Go.Maps Go.RowKit
theorem BoxV.near {w w' : World} {p : Nat → Prop} {B N : Nat} {vs : Array Value} (h : BoxV w N vs) (hB : Near p B w w') (hN : N < B) (hp : ¬ p N) : BoxV w' N vs :=
  ⟨fun j v hv => (hB.cell (a := ⟨N, j, none⟩) hN hp).trans (h.1 j v hv), fun o => (hB.frozen (a := ⟨N, o, none⟩) hN hp).trans (h.2 o)⟩
theorem info_gone : (Tryz.prog.info? 191).map (·.size) = some 6 := by kernel_rfl
def goneV (port : Int) (q : P4) (v : Value) : Value := .agg #[.int .i64 port, .int .i64 q.src, .int .i64 q.dst, .int .i64 q.sport, .int .i64 q.dport, v]
structure Same (L B : Nat) (w w' : World) : Prop where
  size : w.heap.size ≤ w'.heap.size
  blk : ∀ K, L ≤ K → K < B → w'.heap[K]? = w.heap[K]?
theorem Same.of_below {L B : Nat} {w w' : World} (h : Below B w w') : Same L B w w' := ⟨h.size, fun K _ hK => h.block K hK⟩
theorem Same.mono {L B B' : Nat} {w w' : World} (h : Same L B w w') (hB : B' ≤ B) : Same L B' w w' := ⟨h.size, fun K h1 h2 => h.blk K h1 (by omega)⟩
theorem Same.trans {L B : Nat} {w w' w'' : World} (h : Same L B w w') (k : Same L B w' w'') : Same L B w w'' := ⟨Nat.le_trans h.size k.size, fun K h1 h2 => (k.blk K h1 h2).trans (h.blk K h1 h2)⟩
theorem BoxV.sameL {w w' : World} {L B N : Nat} {vs : Array Value} (h : BoxV w N vs) (hs : Same L B w w') (hL : L ≤ N) (hN : N < B) : BoxV w' N vs :=
  ⟨fun j v hv => (World.cell?_of_block (a := ⟨N, j, none⟩) (hs.blk N hL hN)).trans (h.1 j v hv), fun o => (World.frozen?_of_block (a := ⟨N, o, none⟩) (hs.blk N hL hN)).trans (h.2 o)⟩
theorem setCells_blk {L N : Nat} (hN : N < L) : ∀ (cs : List Value) (o : Nat) (w : World), w.heap.size ≤ (w.setCells N o cs).heap.size ∧ ∀ K, L ≤ K → (w.setCells N o cs).heap[K]? = w.heap[K]?
  | [], _, w => ⟨Nat.le_refl _, fun _ _ => rfl⟩
  | v :: r, o, w => by
    obtain ⟨h1, h2⟩ := setCells_blk hN r (o + 1) (w.setCell ⟨N, o, none⟩ v)
    refine ⟨by simpa [World.setCell, World.setCells] using h1, fun K hK => ?_⟩
    rw [World.setCells, h2 K hK]
    exact Below.heap_setCell _ _ _ _ (by show K ≠ N; omega)
theorem same_setCells {L B N : Nat} (hN : N < L) (cs : List Value) (w : World) : Same L B w (w.setCells N 0 cs) :=
  ⟨(setCells_blk hN cs 0 w).1, fun K hK _ => (setCells_blk hN cs 0 w).2 K hK⟩
def KnowAt (L : Nat) (w : World) (g : Nat) (n : NetV) (f o b : Nat) (v : Value) (kn : Know) : Prop :=
  (kn = .nothing ∧ v = .nilFunc) ∨ (∃ F cap, v = .func (.func F) #[] cap ∧ (∀ (args : Array Value) (w' : World), (callFunc F args).run Tryz.prog w' = .ok (.enter F args) w') ∧ ∀ (M : MemS) (k : Nat) (w' : World), Same L w.heap.size w w' → MemAt w' g n f o b M k → k < 1000000 →
    Calls Tryz.prog F cap w' fun e w'' => e = .returned (.tuple #[]) ∧ MemAt w'' g n f o b (M.learn kn) (k + 1) ∧ Near (Is3 f o b) w'.heap.size w' w'')
theorem KnowAt.later {L L' : Nat} {w w' : World} {g : Nat} {n : NetV} {f o b : Nat} {v : Value} {kn : Know} (h : KnowAt L w g n f o b v kn) (hb : Same L w.heap.size w w') (hL : L' ≤ L) : KnowAt L' w' g n f o b v kn := by
  rcases h with h | ⟨F, cap, e, he, h⟩
  · exact .inl h
  · exact .inr ⟨F, cap, e, he, fun M k w'' hb' => h M k w'' (hb.trans ⟨hb'.size, fun K h1 h2 => hb'.blk K (by omega) (by have := hb.size; omega)⟩)⟩
theorem KnowAt.one {L : Nat} {w : World} {g : Nat} {n : NetV} {f o b : Nat} {v : Value} {kn : Know} (h : KnowAt L w g n f o b v kn) : v.oneCell' = true := by
  rcases h with ⟨_, rfl⟩ | ⟨F, cap, rfl, _⟩ <;> rfl
theorem one6 {a b c d e : Int} {v : Value} (h : v.oneCell' = true) : (#[.int .i64 a, .int .i64 b, .int .i64 c, .int .i64 d, .int .i64 e, v] : Array Value).all (·.oneCell') = true := by
  have hi : ∀ k n, (Value.int k n).oneCell' = true := fun _ _ => rfl
  simp [hi, h]
theorem fire1_enters : ∀ (args : Array Value) (w' : World), (callFunc 172 args).run Tryz.prog w' = .ok (.enter 172 args) w' := enters_of Tryz.func172 (by kernel_rfl) rfl
theorem nat1_enters : ∀ (args : Array Value) (w' : World), (callFunc 174 args).run Tryz.prog w' = .ok (.enter 174 args) w' := enters_of Tryz.func174 (by kernel_rfl) rfl
theorem bal1_enters : ∀ (args : Array Value) (w' : World), (callFunc 175 args).run Tryz.prog w' = .ok (.enter 175 args) w' := enters_of Tryz.func175 (by kernel_rfl) rfl
theorem fire1_walk (g : Nat) (n : NetV) (f o b : Nat) (M : MemS) (k : Nat) (A C D : Nat) (i y : Int) (p : P4) (w : World) (hM : MemAt w g n f o b M k) (hk : k < 1000000) (hA : BoxV w A #[.pointer (some ⟨g, 0, none⟩)]) (hC : BoxV w C #[.int .i64 i, .int .i64 y])
    (hD : BoxV w D #[.int .i64 p.src, .int .i64 p.dst, .int .i64 p.sport, .int .i64 p.dport]) (hi : i64ok i) (hp : p.ok) :
    Calls Tryz.prog 172 #[.pointer (some ⟨A, 0, none⟩), .pointer (some ⟨C, 0, none⟩), .pointer (some ⟨D, 0, none⟩)] w fun e w' => e = .returned (.tuple #[]) ∧ MemAt w' g n f o b (M.learn (.flow (i, p))) (k + 1) ∧ Near (Is3 f o b) w.heap.size w w' := by
  obtain ⟨w', hrun, hM', hN⟩ := (hM.below (Below.refl _ _).drew).flow hk (i, p) ⟨hi, hp⟩
  have H1 := hide hM'
  have H2 := hide (show Near (Is3 f o b) w.heap.size w w' from (Near.of_below (Below.refl _ _).drew).trans hN)
  have c2 := hM.c2
  have a0 := hA.1 0 _ rfl
  have b0 := hC.1 0 _ rfl
  have p0 := hD.1 0 _ rfl
  have p1 := hD.1 1 _ rfl
  have p2 := hD.1 2 _ rfl
  have p3 := hD.1 3 _ rfl
  clear hM' hN hM hA hC hD hi hp hk
  simp only [ofVal] at hrun
  go_enter Tryz.func172, Tryz.ntmps172
  go_still_tail 8, (by kernel_rfl)
  go_wp2
  go_end0
  exact ⟨rfl, H1.out, H2.out⟩
theorem nat1_walk (g : Nat) (n : NetV) (f o b : Nat) (M : MemS) (k : Nat) (E A C D : Nat) (i y x : Int) (u : Int × Int) (w : World) (hM : MemAt w g n f o b M k) (hk : k < 1000000) (hE : BoxV w E #[.int .i64 u.1, .int .i64 u.2]) (hA : BoxV w A #[.pointer (some ⟨g, 0, none⟩)]) (hC : BoxV w C #[.int .i64 i, .int .i64 y])
    (hD : BoxV w D #[.int .i64 x]) (hi : i64ok i) (hx : i64ok x) (hu : i64ok u.1 ∧ i64ok u.2) :
    Calls Tryz.prog 174 #[.pointer (some ⟨E, 0, none⟩), .pointer (some ⟨A, 0, none⟩), .pointer (some ⟨C, 0, none⟩), .pointer (some ⟨D, 0, none⟩)] w fun e w' => e = .returned (.tuple #[]) ∧ MemAt w' g n f o b (M.learn (.owner (i, x) u)) (k + 1) ∧ Near (Is3 f o b) w.heap.size w w' := by
  obtain ⟨w', hrun, hM', hN⟩ := (hM.below (Below.refl _ _).drew).owner hk (i, x) ⟨hi, hx⟩ u hu
  have H1 := hide hM'
  have H2 := hide (show Near (Is3 f o b) w.heap.size w w' from (Near.of_below (Below.refl _ _).drew).trans hN)
  have c3 := hM.c3
  have a0 := hA.1 0 _ rfl
  have b0 := hC.1 0 _ rfl
  have p0 := hD.1 0 _ rfl
  have e0 := hE.1 0 _ rfl
  have e1 := hE.1 1 _ rfl
  clear hM' hN hM hA hC hD hi hx hk hE hu
  simp only [poVal, ownV] at hrun
  go_enter Tryz.func174, Tryz.ntmps174
  go_still_tail 9, (by kernel_rfl)
  go_wp2
  go_end0
  exact ⟨rfl, H1.out, H2.out⟩
theorem bal1_walk (g : Nat) (n : NetV) (f o b : Nat) (M : MemS) (k : Nat) (E A C D : Nat) (i y u : Int) (p : P4) (w : World) (hM : MemAt w g n f o b M k) (hk : k < 1000000) (hE : BoxV w E #[.int .i64 u]) (hA : BoxV w A #[.pointer (some ⟨g, 0, none⟩)]) (hC : BoxV w C #[.int .i64 i, .int .i64 y])
    (hD : BoxV w D #[.int .i64 p.src, .int .i64 p.dst, .int .i64 p.sport, .int .i64 p.dport]) (hi : i64ok i) (hp : p.ok) (hu : i64ok u) :
    Calls Tryz.prog 175 #[.pointer (some ⟨E, 0, none⟩), .pointer (some ⟨A, 0, none⟩), .pointer (some ⟨C, 0, none⟩), .pointer (some ⟨D, 0, none⟩)] w fun e w' => e = .returned (.tuple #[]) ∧ MemAt w' g n f o b (M.learn (.back (i, p) u)) (k + 1) ∧ Near (Is3 f o b) w.heap.size w w' := by
  obtain ⟨w', hrun, hM', hN⟩ := (hM.below (Below.refl _ _).drew).back hk (i, p) ⟨hi, hp⟩ u hu
  have H1 := hide hM'
  have H2 := hide (show Near (Is3 f o b) w.heap.size w w' from (Near.of_below (Below.refl _ _).drew).trans hN)
  have c4 := hM.c4
  have a0 := hA.1 0 _ rfl
  have b0 := hC.1 0 _ rfl
  have p0 := hD.1 0 _ rfl
  have p1 := hD.1 1 _ rfl
  have p2 := hD.1 2 _ rfl
  have p3 := hD.1 3 _ rfl
  have e0 := hE.1 0 _ rfl
  clear hM' hN hM hA hC hD hi hp hk hE hu
  simp only [ofVal] at hrun
  go_enter Tryz.func175, Tryz.ntmps175
  go_still_tail 9, (by kernel_rfl)
  go_wp2
  go_end0
  exact ⟨rfl, H1.out, H2.out⟩
def hostV (s : ByteArray) (a : Int) : DevV := ⟨s, 1, a, 0, none, 0, 0, [], none, 0, 0, [], none, 0, 0, []⟩
def chainD (d : Dev) : List Dev := [⟨⟨#[105, 110]⟩, 1, 1, 0, [], [], []⟩, ⟨⟨#[100]⟩, d.kind, d.addr, d.pool, d.backs, d.rules, d.routes⟩, ⟨⟨#[111, 117, 116]⟩, 1, 2, 0, [], [], []⟩]
def chainL : List LinkV := [⟨0, 0, 1, 0⟩, ⟨1, 1, 2, 0⟩]
theorem slAt_box {α : Type} {cells : α → List Value} {s : Nat} (hs : ∀ r, (cells r).length = s) {w : World} {N B : Nat} {l : List α} (h : BoxV w N (l.flatMap cells).toArray) (hN : N < B) : SlAt cells s w B (some ⟨N, 0, none⟩) l.length l :=
  ⟨rfl, fun _ => ⟨N, 0, rfl, hN, fun k r hr j v hv => by
    rw [Nat.zero_add]
    exact h.1 _ v (by simpa using flat_get hs l k r j v hr hv)⟩⟩
theorem hostAt (w : World) (B : Nat) (s : ByteArray) (a : Int) (hs : s.size ≤ maxLen) (ha : i64ok a) : DevAt w B (hostV s a) :=
  ⟨hs, by simp [hostV, i64ok], ha, by simp [hostV], ⟨rfl, fun x hx => by simp [hostV] at hx, fun h0 => absurd h0 (Nat.lt_irrefl _)⟩, ⟨rfl, fun r hr => by simp [hostV] at hr, fun h0 => absurd h0 (Nat.lt_irrefl _)⟩, ⟨rfl, fun h0 => absurd h0 (Nat.lt_irrefl _)⟩, fun r hr => by simp [hostV] at hr, by simp [hostV], by simp [hostV], by simp [hostV]⟩
theorem chain_walk (d : DevV) (W : World) (hd : DevAt W W.heap.size d) :
    Calls Tryz.prog 52 #[.agg #[.string d.name, .int .i64 d.kind, .int .i64 d.addr, .int .u8 d.pool, .slice d.bA d.bn d.bc, .slice d.rA d.rn d.rc, .slice d.tA d.tn d.tc]] W fun e W' => ∃ n : NetV, e = .returned n.val ∧ NetAt W' W'.heap.size n ∧ n.devs = chainD d.dev ∧ n.ls = chainL ∧ Below W.heap.size W W' := by
  go_enter Tryz.func52, Tryz.ntmps52
  go_wp2
  generalize hW : World.alloc _ _ = W4
  obtain ⟨hq, hb⟩ := boxesV (B := W4.heap.size) [(#[.string ⟨#[100]⟩, .int .i64 d.kind, .int .i64 d.addr, .int .u8 d.pool, .slice d.bA d.bn d.bc, .slice d.rA d.rn d.rc, .slice d.tA d.tn d.tc], 98),
    (#[.slice (some ⟨W.heap.size + 1 + 1, 0, none⟩) 3 3, .slice (some ⟨W.heap.size + 1 + 1 + 1, 0, none⟩) 2 2], 25),
    (([hostV ⟨#[105, 110]⟩ 1, ⟨⟨#[100]⟩, d.kind, d.addr, d.pool, d.bA, d.bn, d.bc, d.bs, d.rA, d.rn, d.rc, d.rs, d.tA, d.tn, d.tc, d.ts⟩, hostV ⟨#[111, 117, 116]⟩ 2].flatMap DevV.cells).toArray, 98),
    ((chainL.flatMap LinkV.cells).toArray, 102)] W (W' := W4) (by rw [← hW]; exact Below.refl _ _)
  have hs : W4.heap.size = W.heap.size + 4 := by rw [← hW]; simp
  clear hW
  have hbx := hq 1 _ _ rfl (by omega)
  have hbd := hq 2 _ _ rfl (by omega)
  have hbl := hq 3 _ _ rfl (by omega)
  have hbe := hb (by omega)
  obtain ⟨z0, z1⟩ : W4.cell? ⟨W.heap.size + 1, 0, none⟩ = some (.slice (some ⟨W.heap.size + 1 + 1, 0, none⟩) 3 3) ∧ W4.cell? ⟨W.heap.size + 1, 1, none⟩ = some (.slice (some ⟨W.heap.size + 1 + 1 + 1, 0, none⟩) 2 2) := ⟨hbx.1 0 _ rfl, hbx.1 1 _ rfl⟩
  refine bodyPost_ret (v := .agg #[.slice (some ⟨W.heap.size + 1 + 1, 0, none⟩) 3 3, .slice (some ⟨W.heap.size + 1 + 1 + 1, 0, none⟩) 2 2]) (by simp [results, Tryz.f52, go_sem, z0, z1]) rfl
    ⟨⟨some ⟨W.heap.size + 1 + 1, 0, none⟩, 3, 3, [hostV ⟨#[105, 110]⟩ 1, ⟨⟨#[100]⟩, d.kind, d.addr, d.pool, d.bA, d.bn, d.bc, d.bs, d.rA, d.rn, d.rc, d.rs, d.tA, d.tn, d.tc, d.ts⟩, hostV ⟨#[111, 117, 116]⟩ 2], some ⟨W.heap.size + 1 + 1 + 1, 0, none⟩, 2, 2, chainL⟩, rfl, ?_, rfl, rfl, hbe⟩
  have hd4 := hd.below hbe (show W.heap.size ≤ W4.heap.size by omega)
  refine ⟨slAt_box DevV.len hbd (by omega), fun x hx => ?_, slAt_box LinkV.len hbl (by omega), fun x hx => ?_, ⟨Nat.le_refl _, show (3 : Nat) ≤ maxLen by unfold maxLen; omega⟩, ⟨Nat.le_refl _, show (2 : Nat) ≤ maxLen by unfold maxLen; omega⟩⟩
  · simp only [List.mem_cons, List.not_mem_nil, or_false] at hx
    rcases hx with rfl | rfl | rfl
    · exact hostAt _ _ _ _ (by unfold maxLen; decide) (by unfold i64ok; omega)
    · exact ⟨show (1 : Nat) ≤ maxLen by unfold maxLen; omega, hd4.kd, hd4.ad, hd4.pl, hd4.bs, hd4.rs, hd4.ts, hd4.tok, hd4.cb, hd4.cr, hd4.ct⟩
    · exact hostAt _ _ _ _ (by unfold maxLen; decide) (by unfold i64ok; omega)
  · simp only [chainL, List.mem_cons, List.not_mem_nil, or_false] at hx
    rcases hx with rfl | rfl <;> simp [LinkV.ok, i64ok]
theorem chain_in {d : Dev} {x y : Int} : placeB (chainD d) (1, y) = (decide (0 ≤ y) && decide (y < portsF d.kind)) := by
  simp [placeB, chainD, kindAt]
theorem peer1 : peerF chainL (1, 1) = some (2, 0) := by decide
theorem chain_net (d : Dev) (hd : devE ⟨⟨#[100]⟩, d.kind, d.addr, d.pool, d.backs, d.rules, d.routes⟩ = 0) (hk : portsF d.kind = 2) : netE (chainD d) chainL = 0 := by
  have h1 : namedB ⟨#[105, 110]⟩ = true := by decide
  have h2 : namedB ⟨#[100]⟩ = true := by decide
  have h3 : namedB ⟨#[111, 117, 116]⟩ = true := by decide
  have n1 : nameEq ⟨#[105, 110]⟩ ⟨#[100]⟩ = false := by simp [nameEq, ByteArray.toList_eq]
  have n2 : nameEq ⟨#[105, 110]⟩ ⟨#[111, 117, 116]⟩ = false := by simp [nameEq, ByteArray.toList_eq]
  have n3 : nameEq ⟨#[100]⟩ ⟨#[111, 117, 116]⟩ = false := by simp [nameEq, ByteArray.toList_eq]
  have v1 : devE ⟨⟨#[105, 110]⟩, 1, 1, 0, [], [], []⟩ = 0 := by decide
  have v3 : devE ⟨⟨#[111, 117, 116]⟩, 1, 2, 0, [], [], []⟩ = 0 := by decide
  have hds : devsE [] (chainD d) = 0 := by
    simp [devsE, chainD, h1, h2, h3, n1, n2, n3, v1, v3, hd]
  have hp : ∀ x : Int, placeB (chainD d) (1, x) = (decide (0 ≤ x) && decide (x < 2)) := fun x => by rw [chain_in (x := 0), hk]
  have p0 : placeB (chainD d) (0, 0) = true := by simp [placeB, chainD, kindAt, portsF]
  have p2 : placeB (chainD d) (2, 0) = true := by simp [placeB, chainD, kindAt, portsF]
  simp only [netE]
  rw [if_neg (by simp [chainD, chainL]), if_pos hds]
  simp [linksE, chainL, LinkV.e1, LinkV.e2, hp, p0, p2, takenB, eqP]
def fireD (R : List RuleV) : Dev := ⟨⟨#[]⟩, 3, 0, 0, [], R, []⟩
theorem fire_dev (R : List RuleV) : devE ⟨⟨#[100]⟩, 3, 0, 0, [], R, []⟩ = if 8 < R.length then 2 else 0 := by
  by_cases h : 8 < R.length
  · simp [devE, addrB, backsB, backsOk, h]
  · simp [devE, addrB, backsB, backsOk, h, checkF, chkF]
theorem fire_net (R : List RuleV) (h : R.length ≤ 8) : netE (chainD (fireD R)) chainL = 0 :=
  chain_net (fireD R) (by show devE ⟨⟨#[100]⟩, 3, 0, 0, [], R, []⟩ = 0; rw [fire_dev, if_neg (by omega)]) rfl
def fireW (A : Option Addr) (n c : Nat) (R : List RuleV) : DevV := ⟨⟨#[]⟩, 3, 0, 0, none, 0, 0, [], A, n, c, R, none, 0, 0, []⟩
theorem fireW_at {w : World} {B : Nat} {A : Option Addr} {n c : Nat} {R : List RuleV} (h : RulesAt w B A n R) (hc : n ≤ c ∧ c ≤ maxLen) : DevAt w B (fireW A n c R) :=
  ⟨Nat.zero_le _, by simp [fireW, i64ok], by simp [fireW, i64ok], by simp [fireW], ⟨rfl, fun x hx => by simp [fireW] at hx, fun h0 => absurd h0 (Nat.lt_irrefl _)⟩, h, ⟨rfl, fun h0 => absurd h0 (Nat.lt_irrefl _)⟩, fun r hr => by simp [fireW] at hr, by simp [fireW], hc, by simp [fireW]⟩
theorem oneRule_at {w : World} {N B : Nat} (h : BoxV w N #[.bool true, .int .u16 65535, .int .u16 65535, .int .u8 255, .int .u8 255]) (hN : N < B) : RulesAt w B (some ⟨N, 0, none⟩) 1 [allR true] :=
  (show SlAt RuleV.cells 5 w B (some ⟨N, 0, none⟩) [allR true].length [allR true] from slAt_box RuleV.len h hN).rules (fun r hr => by
    obtain rfl := List.mem_singleton.1 hr
    exact allR_ok _)
theorem placeOf_walk (a b : Int) (W : World) : Calls Tryz.prog 54 #[.int .i64 a, .int .i64 b] W fun e W' => e = .returned (.agg #[.int .i64 a, .int .i64 b]) ∧ RowKit.Below W.heap.size W W' := by
  have hb := (RowKit.Below.refl W.heap.size W).alloc (Nat.le_refl _) (.cells #[.int .i64 a, .int .i64 b] 27)
  have hx := BoxV.new W #[.int .i64 a, .int .i64 b] 27
  go_enter Tryz.func54, Tryz.ntmps54
  go_wp2
  have z0 := hx.1 0 _ rfl
  have z1 := hx.1 1 _ rfl
  clear hx
  refine bodyPost_ret (v := .agg #[.int .i64 a, .int .i64 b]) (by simp [results, Tryz.f54, go_sem, z0, z1]) rfl ⟨rfl, ?_⟩
  first | exact hb | exact (((RowKit.Below.refl W.heap.size W).alloc (Nat.le_refl _) _).setCell (Nat.le_refl _) _).setCell (Nat.le_refl _) _
end Go.Proofs.YtohbafigjpoijaaGreat
namespace Go.Proofs.YtohbafigjpoijaaGreat
open Go.RowKit
def Box4 (w : World) (N : Nat) (a b c d : Int) : Prop := (w.cell? ⟨N, 0, none⟩ = some (.int .i64 a) ∧ w.cell? ⟨N, 1, none⟩ = some (.int .i64 b) ∧ w.cell? ⟨N, 2, none⟩ = some (.int .i64 c) ∧ w.cell? ⟨N, 3, none⟩ = some (.int .i64 d)) ∧ ∀ o, w.frozen? ⟨N, o, none⟩ = false
theorem Box4.new (w : World) (a b c d : Int) (t : TypeId) : Box4 (w.alloc (.cells #[.int .i64 a, .int .i64 b, .int .i64 c, .int .i64 d] t)) w.heap.size a b c d := by
  have hbx := heap_alloc_new w (.cells #[.int .i64 a, .int .i64 b, .int .i64 c, .int .i64 d] t)
  refine ⟨⟨?_, ?_, ?_, ?_⟩, fun o => by unfold World.frozen?; rw [hbx]; simp⟩ <;> (rw [cell_of_row _ _ _ _ _ _ hbx]; rfl)
theorem Box4.below {w w' : World} {B N : Nat} {a b c d : Int} (h : Box4 w N a b c d) (hB : Below B w w') (hN : N < B) : Box4 w' N a b c d := by
  have ee : ∀ o, w'.cell? ⟨N, o, none⟩ = w.cell? ⟨N, o, none⟩ := fun o => hB.cell (p := ⟨N, o, none⟩) hN
  have ff : ∀ o, w'.frozen? ⟨N, o, none⟩ = w.frozen? ⟨N, o, none⟩ := fun o => hB.frozen (p := ⟨N, o, none⟩) hN
  unfold Box4
  rw [ee, ee, ee, ee]
  exact ⟨h.1, fun o => (ff o).trans (h.2 o)⟩
def flipP (p : P4) : P4 := ⟨p.dst, p.src, p.dport, p.sport⟩
theorem flip_walk (p : P4) (W : World) : Calls Tryz.prog 143 #[.agg #[.int .i64 p.src, .int .i64 p.dst, .int .i64 p.sport, .int .i64 p.dport]] W fun e W' => e = .returned (.agg #[.int .i64 p.dst, .int .i64 p.src, .int .i64 p.dport, .int .i64 p.sport]) ∧ RowKit.Below W.heap.size W W' := by
  obtain ⟨a, b, c, d⟩ := p
  simp only
  have HB := hide (show ∀ o o', RowKit.Below W.heap.size W ((W.alloc o).alloc o') from fun o o' => ((RowKit.Below.refl W.heap.size W).alloc (Nat.le_refl _) o).alloc (by simp) o')
  have hx := Box4.new W a b c d 29
  have hy := Box4.new (W.alloc (.cells #[.int .i64 a, .int .i64 b, .int .i64 c, .int .i64 d] 29)) 0 0 0 0 29
  have hx2 := hx.below ((RowKit.Below.refl _ _).alloc (Nat.le_refl _) (.cells #[.int .i64 0, .int .i64 0, .int .i64 0, .int .i64 0] 29)) (by simp)
  rw [show (W.alloc (.cells #[.int .i64 a, .int .i64 b, .int .i64 c, .int .i64 d] 29)).heap.size = W.heap.size + 1 from by simp] at hy
  obtain ⟨⟨x0, x1, x2, x3⟩, _⟩ := hx2
  obtain ⟨⟨y0, y1, y2, y3⟩, yf⟩ := hy
  clear hx
  have hb0 := HB.out (.cells #[.int .i64 a, .int .i64 b, .int .i64 c, .int .i64 d] 29) (.cells #[.int .i64 0, .int .i64 0, .int .i64 0, .int .i64 0] 29)
  go_enter Tryz.func143, Tryz.ntmps143
  go_wp2
  refine bodyPost_ret (v := .agg #[.int .i64 b, .int .i64 a, .int .i64 d, .int .i64 c]) (by simp [results, Tryz.f143, go_sem, y0, y1, y2, y3]) rfl ⟨rfl, ?_⟩
  first | exact HB.out _ _ | exact (((hb0.setCell (by show _ ≤ W.heap.size + 1; omega) _).setCell (by show _ ≤ W.heap.size + 1; omega) _).setCell (by show _ ≤ W.heap.size + 1; omega) _).setCell (by show _ ≤ W.heap.size + 1; omega) _
open Go.Maps
structure GoneS where
  port : Int
  q : P4
  kn : Know
def GoneS.zero : GoneS := ⟨0, ⟨0, 0, 0, 0⟩, .nothing⟩
def fireF (r : Dev) (M : MemS) (i y : Int) (p : P4) : GoneS × Bool :=
  if y = 0 then (⟨1, p, .flow (i, p)⟩, letsB r.rules p) else (⟨0, p, .nothing⟩, M.F (i, flipP p))
def mineG (M : MemS) (i : Int) (o : Int × Int) : Nat → Nat → Int
  | 0, _ => -1
  | m + 1, k => if M.O (i, (k : Int)) = some o then (k : Int) else mineG M i o m (k + 1)
def mineF (M : MemS) (i : Int) (o : Int × Int) : Int := mineG M i o 8 0
def hasBit (pool : Nat) (c : Int) : Bool := pool.testBit c.toNat
def natH (r : Dev) (M : MemS) (i y : Int) (p : P4) (ch : Int) : GoneS × Bool × Int :=
  if y = 1 then
    if p.dst ≠ r.addr then (.zero, false, 0)
    else match M.O (i, p.dport) with
      | some o => (⟨0, ⟨p.src, o.1, p.sport, o.2⟩, .nothing⟩, true, 0)
      | none => (.zero, false, 0)
  else if 0 ≤ mineF M i (p.src, p.sport) then
    (⟨1, ⟨r.addr, p.dst, mineF M i (p.src, p.sport), p.dport⟩, .owner (i, mineF M i (p.src, p.sport)) (p.src, p.sport)⟩, true, 0)
  else if ch < 0 ∨ 8 ≤ ch ∨ hasBit r.pool ch = false then (.zero, false, 1)
  else if (M.O (i, ch)).isSome then (.zero, false, 6)
  else (⟨1, ⟨r.addr, p.dst, ch, p.dport⟩, .owner (i, ch) (p.src, p.sport)⟩, true, 0)
def balF (r : Dev) (M : MemS) (i y : Int) (p : P4) (ch : Int) : GoneS × Int :=
  if y = 1 then
    (⟨0, if M.B (i, ⟨p.dst, r.addr, p.dport, p.sport⟩) = some p.src then ⟨r.addr, p.dst, p.sport, p.dport⟩ else p, .nothing⟩, 0)
  else if p.dst ≠ r.addr then (⟨1, p, .nothing⟩, 0)
  else match M.B (i, p) with
    | some b => (⟨1, ⟨p.src, b, p.sport, p.dport⟩, .back (i, p) b⟩, 0)
    | none => match (if ch < 0 then none else r.backs[ch.toNat]?) with
      | some b => (⟨1, ⟨p.src, b, p.sport, p.dport⟩, .back (i, p) b⟩, 0)
      | none => (.zero, 1)
def routF (r : Dev) (p : P4) : GoneS × Bool := (⟨(outF p.dst r.routes).1, p, .nothing⟩, decide (0 ≤ (outF p.dst r.routes).2) && letsB r.rules p)
def outS (r : Dev) (M : MemS) (i y : Int) (p : P4) (ch : Int) : GoneS × Bool × Int :=
  if r.kind = 2 then ((routF r p).1, (routF r p).2, 0)
  else if r.kind = 3 then ((fireF r M i y p).1, (fireF r M i y p).2, 0)
  else if r.kind = 4 then natH r M i y p ch
  else if r.kind = 5 then ((balF r M i y p ch).1, decide ((balF r M i y p ch).2 = 0), (balF r M i y p ch).2)
  else (.zero, false, 0)
structure HandS where
  e : Int
  to : Pl
  q : P4
  kn : Know
def HandS.bad (e : Int) : HandS := ⟨e, (0, 0), ⟨0, 0, 0, 0⟩, .nothing⟩
def goS (ls : List LinkV) (i : Int) (x : GoneS × Bool × Int) : HandS :=
  if x.2.2 ≠ 0 then .bad x.2.2
  else match peerF ls (i, x.1.port) with
    | none => .bad 7
    | some to => if x.2.1 then ⟨0, to, x.1.q, x.1.kn⟩ else .bad 7
def handS (ds : List Dev) (ls : List LinkV) (M : MemS) (i y : Int) (p : P4) (ch : Int) : HandS :=
  if placeB ds (i, y) = false then .bad 4
  else if rightB p = false then .bad 1
  else match ds[i.toNat]? with
    | none => .bad 4
    | some r => goS ls i (outS r M i y p ch)
def HandS.val (h : HandS) : Value := .tuple #[.agg #[.int .i64 h.to.1, .int .i64 h.to.2, .int .i64 h.q.src, .int .i64 h.q.dst, .int .i64 h.q.sport, .int .i64 h.q.dport], .int .i64 h.e]
theorem info_device : (Tryz.prog.info? 98).map (·.size) = some 7 := by kernel_rfl
theorem info_owner : (Tryz.prog.info? 201).map (·.size) = some 2 := by kernel_rfl
def DevV.arr (d : DevV) : Array Value := #[.string d.name, .int .i64 d.kind, .int .i64 d.addr, .int .u8 d.pool, .slice d.bA d.bn d.bc, .slice d.rA d.rn d.rc, .slice d.tA d.tn d.tc]
theorem DevV.arr_one (d : DevV) : d.arr.all (·.oneCell') = true := by simp [DevV.arr, Value.oneCell']
structure AtDev (W : World) (g : Nat) (n : NetV) (f o b : Nat) (M : MemS) (k : Nat) (i y : Int) (p : P4) (r : DevV) (G : Nat) (w : World) : Prop where
  memW : ∀ w', Below W.heap.size W w' → MemAt w' g n f o b M k
  bl : Below W.heap.size W w
  b0 : BoxV w W.heap.size #[.pointer (some ⟨g, 0, none⟩)]
  b1 : BoxV w (W.heap.size + 1) #[.int .i64 i, .int .i64 y]
  b2 : BoxV w (W.heap.size + 1 + 1) #[.int .i64 p.src, .int .i64 p.dst, .int .i64 p.sport, .int .i64 p.dport]
  b3 : BoxV w (W.heap.size + 1 + 1 + 1) #[.int .i64 0, .int .i64 0, .int .i64 0, .int .i64 0, .int .i64 0, .nilFunc]
  bd : BoxV w G r.arr
  hg : W.heap.size + 1 + 1 + 1 < G
  lt : G < w.heap.size
theorem AtDev.mem {W : World} {g : Nat} {n : NetV} {f o b : Nat} {M : MemS} {k : Nat} {i y : Int} {p : P4} {r : DevV} {G : Nat} {w : World} (h : AtDev W g n f o b M k i y p r G w) : MemAt w g n f o b M k := h.memW w h.bl
theorem AtDev.below {W : World} {g : Nat} {n : NetV} {f o b : Nat} {M : MemS} {k : Nat} {i y : Int} {p : P4} {r : DevV} {G : Nat} {w w' : World} (h : AtDev W g n f o b M k i y p r G w) (hb : Below w.heap.size w w') : AtDev W g n f o b M k i y p r G w' := by
  have h1 := h.lt
  have h2 := h.hg
  have h3 := h.bl.size
  exact ⟨h.memW, h.bl.trans (hb.mono h3), h.b0.below hb (by omega), h.b1.below hb (by omega), h.b2.below hb (by omega), h.b3.below hb (by omega), h.bd.below hb h1, h2, by have := hb.size; omega⟩
theorem AtDev.alloc {W : World} {g : Nat} {n : NetV} {f o b : Nat} {M : MemS} {k : Nat} {i y : Int} {p : P4} {r : DevV} {G : Nat} {w : World} (h : AtDev W g n f o b M k i y p r G w) (x : Obj) : AtDev W g n f o b M k i y p r G (w.alloc x) := h.below ((Below.refl _ _).alloc (Nat.le_refl _) x)
theorem AtDev.far {W : World} {g : Nat} {n : NetV} {f o b : Nat} {M : MemS} {k : Nat} {i y : Int} {p : P4} {r : DevV} {G : Nat} {w : World} (h : AtDev W g n f o b M k i y p r G w) (a : Addr) (v : Value) (ha : G < a.block) : AtDev W g n f o b M k i y p r G (w.setCell a v) := by
  have h2 := h.hg
  have h3 := h.bl.size
  exact ⟨h.memW, h.bl.setCell (by omega) v, h.b0.far _ _ (by omega), h.b1.far _ _ (by omega), h.b2.far _ _ (by omega), h.b3.far _ _ (by omega), h.bd.far _ _ (by omega), h2, by have := h.lt; simpa [World.setCell] using this⟩
theorem BoxV.apart {w : World} {N : Nat} {vs : Array Value} (h : BoxV w N vs) (b : Nat) (cs : List Value) (hne : b ≠ N) : BoxV (w.setCells b 0 cs) N vs :=
  ⟨fun j v hv => by rw [World.cell?_setCells_out b cs 0 w ⟨N, j, none⟩ (fun e _ => absurd e.symm hne)]; exact h.1 j v hv, fun o => by rw [World.frozen?_setCells]; exact h.2 o⟩
def codeP (p : P4) : Nat := p.src.toNat * 1024 + p.dst.toNat * 64 + p.sport.toNat * 8 + p.dport.toNat
theorem right_nats {p : P4} (h : rightB p = true) : ∃ a b c d : Nat, p = ⟨(a : Int), (b : Int), (c : Int), (d : Int)⟩ ∧ a < 16 ∧ b < 16 ∧ c < 8 ∧ d < 8 := by
  obtain ⟨a, b, c, d⟩ := p
  simp only [rightB, inR, Bool.and_eq_true, decide_eq_true_eq] at h
  refine ⟨a.toNat, b.toNat, c.toNat, d.toNat, ?_, by omega, by omega, by omega, by omega⟩
  simp only [P4.mk.injEq]
  omega
theorem code_lt {p : P4} (h : rightB p = true) : codeP p < 16384 := by
  obtain ⟨a, b, c, d, rfl, h1, h2, h3, h4⟩ := right_nats h
  simp only [codeP, Int.toNat_natCast]
  omega
theorem or_parts (a b k : Nat) (hb : b < 2 ^ k) : a * 2 ^ k ||| b = a * 2 ^ k + b := by
  rw [Nat.mul_comm, Nat.two_pow_add_eq_or_of_lt hb]
theorem or_code1 (a b : Nat) (ha : a < 16) (hb : b < 16) : Go.bits .or .i64 ((a * 1024 : Nat) : Int) ((b * 64 : Nat) : Int) = ((a * 1024 + b * 64 : Nat) : Int) := by
  rw [i64_or _ _ (by omega) (by omega)]
  have : a * 1024 ||| b * 64 = a * 1024 + b * 64 := or_parts a (b * 64) 10 (by omega)
  rw [this]
theorem or_code2 (a b c : Nat) (ha : a < 16) (hb : b < 16) (hc : c < 8) : Go.bits .or .i64 ((a * 1024 + b * 64 : Nat) : Int) ((c * 8 : Nat) : Int) = ((a * 1024 + b * 64 + c * 8 : Nat) : Int) := by
  rw [i64_or _ _ (by omega) (by omega)]
  have := or_parts (a * 16 + b) (c * 8) 6 (by omega)
  have e : (a * 16 + b) * 2 ^ 6 = a * 1024 + b * 64 := by omega
  rw [e] at this
  rw [this]
theorem or_code3 (a b c d : Nat) (ha : a < 16) (hb : b < 16) (hc : c < 8) (hd : d < 8) : Go.bits .or .i64 ((a * 1024 + b * 64 + c * 8 : Nat) : Int) (d : Int) = ((a * 1024 + b * 64 + c * 8 + d : Nat) : Int) := by
  rw [i64_or _ _ (by omega) (by omega)]
  have := or_parts (a * 128 + b * 8 + c) d 3 (by omega)
  have e : (a * 128 + b * 8 + c) * 2 ^ 3 = a * 1024 + b * 64 + c * 8 := by omega
  rw [e] at this
  rw [this]
theorem code_walk (p : P4) (W : World) : Calls Tryz.prog 44 #[.agg #[.int .i64 p.src, .int .i64 p.dst, .int .i64 p.sport, .int .i64 p.dport]] W fun e W' => e = .returned (.tuple #[.int .i64 (if rightB p then (codeP p : Int) else 0), .int .i64 (if rightB p then 0 else 1)]) ∧ RowKit.Below W.heap.size W W' := by
  have HC := hide (fun (w : World) => packetCheck_walk p w)
  cases hR : rightB p with
  | false =>
    simp only [hR] at HC
    obtain ⟨a, b, c, d⟩ := p
    clear hR
    go_enter Tryz.func44, Tryz.ntmps44
    go_wp2_with fail
    have hb0 := (RowKit.Below.refl W.heap.size W).alloc (Nat.le_refl _) (.cells #[.int .i64 a, .int .i64 b, .int .i64 c, .int .i64 d] 29)
    refine (HC.out _).mono ?_
    rintro e w1 ⟨rfl, hb⟩
    have HB := hide (hb0.trans (hb.mono hb0.size))
    clear hb hb0
    go_wp2
    go_ret2
    exact ⟨rfl, HB.out⟩
  | true =>
    simp only [hR] at HC
    obtain ⟨a, b, c, d, rfl, h1, h2, h3, h4⟩ := right_nats hR
    have e0 : codeP ⟨(a : Int), (b : Int), (c : Int), (d : Int)⟩ = a * 1024 + b * 64 + c * 8 + d := by simp only [codeP, Int.toNat_natCast]
    rw [e0]
    have q1 := or_code1 a b h1 h2
    have q2 := or_code2 a b c h1 h2 h3
    have q3 := or_code3 a b c d h1 h2 h3 h4
    have q4 : Go.bits .or .i64 (Go.bits .or .i64 (Go.bits .or .i64 ((a : Int) * 1024) ((b : Int) * 64)) ((c : Int) * 8)) (d : Int) = ((a * 1024 + b * 64 + c * 8 + d : Nat) : Int) := by
      rw [show ((a : Int) * 1024) = ((a * 1024 : Nat) : Int) by omega, show ((b : Int) * 64) = ((b * 64 : Nat) : Int) by omega, show ((c : Int) * 8) = ((c * 8 : Nat) : Int) by omega, q1, q2, q3]
    have HQ := hide q4
    clear hR e0 q1 q2 q3 q4
    go_enter Tryz.func44, Tryz.ntmps44
    go_wp2_with fail
    have hb0 := (RowKit.Below.refl W.heap.size W).alloc (Nat.le_refl _) (.cells #[.int .i64 (a : Int), .int .i64 (b : Int), .int .i64 (c : Int), .int .i64 (d : Int)] 29)
    have HX0 := hide (heap_alloc_new W (.cells #[.int .i64 (a : Int), .int .i64 (b : Int), .int .i64 (c : Int), .int .i64 (d : Int)] 29))
    refine (HC.out _).mono ?_
    rintro e w1 ⟨rfl, hb⟩
    have HB := hide (hb0.trans (hb.mono hb0.size))
    have hx := (hb.block W.heap.size (by simp)).trans HX0.out
    have x0 : w1.cell? ⟨W.heap.size, 0, none⟩ = some (.int .i64 (a : Int)) := by rw [cell_of_row _ _ _ _ _ _ hx]; rfl
    have x1 : w1.cell? ⟨W.heap.size, 1, none⟩ = some (.int .i64 (b : Int)) := by rw [cell_of_row _ _ _ _ _ _ hx]; rfl
    have x2 : w1.cell? ⟨W.heap.size, 2, none⟩ = some (.int .i64 (c : Int)) := by rw [cell_of_row _ _ _ _ _ _ hx]; rfl
    have x3 : w1.cell? ⟨W.heap.size, 3, none⟩ = some (.int .i64 (d : Int)) := by rw [cell_of_row _ _ _ _ _ _ hx]; rfl
    clear hb hb0 hx HX0
    go_wp2
    go_ret2
    refine ⟨?_, HB.out⟩
    show Ending.returned (.tuple #[.int .i64 (Go.bits .or .i64 (Go.bits .or .i64 (Go.bits .or .i64 ((a : Int) * 1024) ((b : Int) * 64)) ((c : Int) * 8)) (d : Int)), .int .i64 0]) = _
    rw [HQ.out]
    rfl
theorem retI {a b : Int} (h : a = b) : Ending.returned (.int .i64 a) = Ending.returned (.int .i64 b) := by rw [h]
theorem mineG_step (M : MemS) (i : Int) (o : Int × Int) {k : Nat} (hk : k < 8) : mineG M i o (8 - k) k = if M.O (i, (k : Int)) = some o then (k : Int) else mineG M i o (8 - (k + 1)) (k + 1) := by
  obtain ⟨m, hm⟩ : ∃ m, 8 - k = m + 1 := ⟨7 - k, by omega⟩
  rw [hm, show 8 - (k + 1) = m by omega]
  rfl
theorem mine_ok (M : MemS) (i : Int) (o : Int × Int) : ∀ (m k : Nat), m + k ≤ 8 → i64ok (mineG M i o m k)
  | 0, _, _ => by simp [mineG, i64ok]
  | m + 1, k, h => by
    unfold mineG
    split
    · unfold i64ok; omega
    · exact mine_ok M i o m (k + 1) (by omega)
theorem mine_walk (g : Nat) (n : NetV) (f o b : Nat) (M : MemS) (N : Nat) (i a c : Int) (W : World) (hM : MemAt W g n f o b M N) (hi : i64ok i) :
    Calls Tryz.prog 173 #[.pointer (some ⟨g, 0, none⟩), .int .i64 i, .agg #[.int .i64 a, .int .i64 c]] W fun e W' => e = .returned (.int .i64 (mineF M i (a, c))) ∧ Below W.heap.size W W' := by
  have HMA := hide (fun (w' : World) (hb : Below W.heap.size W w') => hM.below hb)
  have hgl := hM.glt
  clear hM
  go_enter Tryz.func173, Tryz.ntmps173
  go_wp2
  have hb0 : Below W.heap.size W (W.alloc (.cells #[.int .i64 a, .int .i64 c] 201)) := (Below.refl _ _).alloc (Nat.le_refl _) _
  have hx0 := BoxV.new W #[.int .i64 a, .int .i64 c] 201
  have hz0 : (W.alloc (.cells #[.int .i64 a, .int .i64 c] 201)).heap.size = W.heap.size + 1 := by simp
  generalize World.alloc W _ = W0 at *
  have HX0 := hide (fun (w' : World) (hb : Below W0.heap.size W0 w') => show BoxV w' W.heap.size #[.int .i64 a, .int .i64 c] ∧ MemAt w' g n f o b M N ∧ Below W.heap.size W w' from
    ⟨hx0.below hb (by omega), HMA.out _ (hb0.trans (hb.mono (by omega))), hb0.trans (hb.mono (by omega))⟩)
  clear hb0 hx0 HMA
  go_loopw [10] (fun j wr => ∃ k : Nat, k ≤ 8 ∧ j = .int .i64 k ∧ Hid (Below W0.heap.size W0 wr) ∧ Hid (mineF M i (a, c) = mineG M i (a, c) (8 - k) k)) (fun j _ => 8 - (intOf j).toNat)
  case atStart => exact ⟨0, by omega, rfl, hide (Below.refl _ _), hide rfl⟩
  case round =>
    obtain ⟨k, hk, rfl, HB, HE⟩ := hrel
    by_cases hlt : k < 8
    · obtain ⟨hbx, hm, _⟩ := HX0.out _ HB.out
      have c3 := hm.c3
      have l3 := hm.lookO (i, (k : Int)) ⟨hi, by unfold i64ok; omega⟩
      have n1 : W.heap.size ≠ wr.heap.size := by have := HB.out.size; omega
      have n2 : g ≠ wr.heap.size := by have := HB.out.size; omega
      have y0 := fun o' => ((HX0.out _ (HB.out.alloc HB.out.size o')).1).1 0 _ rfl
      have y1 := fun o' => ((HX0.out _ (HB.out.alloc HB.out.size o')).1).1 1 _ rfl
      have HS := hide (HE.out.trans (mineG_step M i (a, c) hlt))
      have HA := hide (fun o' => HB.out.alloc HB.out.size o')
      clear hbx hm HE
      simp only [poVal, ownV] at l3
      cases hO : M.O (i, (k : Int)) with
      | none =>
        simp only [hO, Option.getD_none, Option.isSome_none] at l3
        have HN := hide (show mineF M i (a, c) = mineG M i (a, c) (8 - (k + 1)) (k + 1) from by rw [HS.out, if_neg (by rw [hO]; simp)])
        clear hO HS
        go_wp2
        go_roundw
        case rel => exact ⟨k + 1, by omega, by go_num, hide (HA.out _), HN⟩
        case measure => simp [intOf]; omega
      | some x =>
        obtain ⟨u, v⟩ := x
        simp only [hO, Option.getD_some, Option.isSome_some] at l3
        by_cases e1 : u = a
        · by_cases e2 : v = c
          · subst e1 e2
            have HN := hide (show mineF M i (u, v) = (k : Int) from by rw [HS.out, if_pos hO])
            clear hO HS
            go_wp2
            go_ret
            exact ⟨retI HN.out.symm, (HX0.out _ (HA.out _)).2.2⟩
          · have HN := hide (show mineF M i (a, c) = mineG M i (a, c) (8 - (k + 1)) (k + 1) from by rw [HS.out, if_neg (by rw [hO]; simp [e2])])
            have d2 : (v == c) = false := by simpa using e2
            subst e1
            clear hO HS
            go_wp2
            go_roundw
            case rel => exact ⟨k + 1, by omega, by go_num, hide (HA.out _), HN⟩
            case measure => simp [intOf]; omega
        · have HN := hide (show mineF M i (a, c) = mineG M i (a, c) (8 - (k + 1)) (k + 1) from by rw [HS.out, if_neg (by rw [hO]; simp [e1])])
          have d1 : (u == a) = false := by simpa using e1
          clear hO HS
          go_wp2
          go_roundw
          case rel => exact ⟨k + 1, by omega, by go_num, hide (HA.out _), HN⟩
          case measure => simp [intOf]; omega
    · obtain rfl : k = 8 := by omega
      go_wp2
      go_ret
      exact ⟨retI (by rw [HE.out]; rfl), (HX0.out _ HB.out).2.2⟩
theorem mineG_spec (M : MemS) (i : Int) (o : Int × Int) : ∀ (m k : Nat), (mineG M i o m k = -1 ∧ ∀ j : Nat, k ≤ j → j < k + m → M.O (i, (j : Int)) ≠ some o) ∨ ∃ j : Nat, k ≤ j ∧ j < k + m ∧ mineG M i o m k = (j : Int) ∧ M.O (i, (j : Int)) = some o
  | 0, k => Or.inl ⟨rfl, fun j h1 h2 => absurd h2 (by omega)⟩
  | m + 1, k => by
    by_cases h : M.O (i, (k : Int)) = some o
    · exact Or.inr ⟨k, Nat.le_refl _, by omega, by simp [mineG, h], h⟩
    · have e : mineG M i o (m + 1) k = mineG M i o m (k + 1) := by simp [mineG, h]
      rw [e]
      rcases mineG_spec M i o m (k + 1) with ⟨h1, h2⟩ | ⟨j, h1, h2, h3, h4⟩
      · refine Or.inl ⟨h1, fun j j1 j2 => ?_⟩
        by_cases hj : j = k
        · subst hj; exact h
        · exact h2 j (by omega) (by omega)
      · exact Or.inr ⟨j, by omega, by omega, h3, h4⟩
theorem mineF_spec (M : MemS) (i : Int) (o : Int × Int) : (mineF M i o = -1 ∧ ∀ j : Int, 0 ≤ j → j < 8 → M.O (i, j) ≠ some o) ∨ (0 ≤ mineF M i o ∧ mineF M i o < 8 ∧ M.O (i, mineF M i o) = some o) := by
  rcases mineG_spec M i o 8 0 with ⟨h1, h2⟩ | ⟨j, h1, h2, h3, h4⟩
  · refine Or.inl ⟨h1, fun j j0 j1 => ?_⟩
    have := h2 j.toNat (by omega) (by omega)
    rwa [Int.toNat_of_nonneg j0] at this
  · refine Or.inr ⟨?_, ?_, ?_⟩
    · show 0 ≤ mineG M i o 8 0; omega
    · show mineG M i o 8 0 < 8; omega
    · show M.O (i, mineG M i o 8 0) = some o; rw [h3]; exact h4
end Go.Proofs.YtohbafigjpoijaaGreat
