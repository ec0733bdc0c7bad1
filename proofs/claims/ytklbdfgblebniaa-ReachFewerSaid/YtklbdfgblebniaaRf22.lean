/- A part of the proof: Chain, RdR, RdY, OpensN. -/
import Derived.Test.YtklbdfgblebniaaRf21
import Derived.SizedLaws

set_option linter.unusedVariables false
set_option linter.unusedSimpArgs false
namespace Go.Proofs.Ytklbdfgblebniaa
open Go.RowKit Go.Maps

def hostV (s : ByteArray) (a : Int) : DevV := ⟨s, 1, a, 0, none, 0, 0, [], none, 0, 0, [], none, 0, 0, []⟩
def chainD (d : Dev) : List Dev := [⟨⟨#[105, 110]⟩, 1, 1, 0, [], [], []⟩, ⟨⟨#[100]⟩, d.kind, d.addr, d.pool, d.backs, d.rules, d.routes⟩, ⟨⟨#[111, 117, 116]⟩, 1, 2, 0, [], [], []⟩]
def chainL : List LinkV := [⟨0, 0, 1, 0⟩, ⟨1, 1, 2, 0⟩]

theorem slAt_box {α : Type} {cells : α → List Value} {s : Nat} (hs : ∀ r, (cells r).length = s) {w : World} {N B : Nat} {l : List α} (h : BoxV w N (l.flatMap cells).toArray) (hN : N < B) : SlAt cells s w B (some ⟨N, 0, none⟩) l.length l :=
  ⟨rfl, fun _ => ⟨N, 0, rfl, hN, fun k r hr j v hv => by
    rw [Nat.zero_add]
    exact h.1 _ v (by simpa using flat_get hs l k r j v hr hv)⟩⟩
theorem hostAt (w : World) (B : Nat) (s : ByteArray) (a : Int) (hs : s.size ≤ maxLen) (ha : i64ok a) : DevAt w B (hostV s a) :=
  ⟨hs, by simp [hostV, i64ok], ha, by simp [hostV], ⟨rfl, fun x hx => by simp [hostV] at hx, fun h0 => absurd h0 (Nat.lt_irrefl _)⟩, ⟨rfl, fun r hr => by simp [hostV] at hr, fun h0 => absurd h0 (Nat.lt_irrefl _)⟩, ⟨rfl, fun h0 => absurd h0 (Nat.lt_irrefl _)⟩, fun r hr => by simp [hostV] at hr, by simp [hostV], by simp [hostV], by simp [hostV]⟩

set_option maxRecDepth 100000 in
set_option maxHeartbeats 4000000 in
theorem chain_walk (d : DevV) (W : World) (hd : DevAt W W.heap.size d) :
    Calls Try.prog 15 #[.agg #[.string d.name, .int .i64 d.kind, .int .i64 d.addr, .int .u8 d.pool, .slice d.bA d.bn d.bc, .slice d.rA d.rn d.rc, .slice d.tA d.tn d.tc]] W fun e W' => ∃ n : NetV, e = .returned n.val ∧ NetAt W' W'.heap.size n ∧ n.devs = chainD d.dev ∧ n.ls = chainL ∧ Below W.heap.size W W' := by
  go_enter Try.func15, Try.ntmps15
  go_wp2
  generalize hW : World.alloc _ _ = W4
  obtain ⟨hq, hb⟩ := boxesV (B := W4.heap.size) [(#[.string ⟨#[100]⟩, .int .i64 d.kind, .int .i64 d.addr, .int .u8 d.pool, .slice d.bA d.bn d.bc, .slice d.rA d.rn d.rc, .slice d.tA d.tn d.tc], 34),
    (#[.slice (some ⟨W.heap.size + 1 + 1, 0, none⟩) 3 3, .slice (some ⟨W.heap.size + 1 + 1 + 1, 0, none⟩) 2 2], 25),
    (([hostV ⟨#[105, 110]⟩ 1, ⟨⟨#[100]⟩, d.kind, d.addr, d.pool, d.bA, d.bn, d.bc, d.bs, d.rA, d.rn, d.rc, d.rs, d.tA, d.tn, d.tc, d.ts⟩, hostV ⟨#[111, 117, 116]⟩ 2].flatMap DevV.cells).toArray, 34),
    ((chainL.flatMap LinkV.cells).toArray, 36)] W (W' := W4) (by rw [← hW]; exact Below.refl _ _)
  have hs : W4.heap.size = W.heap.size + 4 := by rw [← hW]; simp
  clear hW
  have hbx := hq 1 _ _ rfl (by omega)
  have hbd := hq 2 _ _ rfl (by omega)
  have hbl := hq 3 _ _ rfl (by omega)
  have hbe := hb (by omega)
  obtain ⟨z0, z1⟩ : W4.cell? ⟨W.heap.size + 1, 0, none⟩ = some (.slice (some ⟨W.heap.size + 1 + 1, 0, none⟩) 3 3) ∧ W4.cell? ⟨W.heap.size + 1, 1, none⟩ = some (.slice (some ⟨W.heap.size + 1 + 1 + 1, 0, none⟩) 2 2) := ⟨hbx.1 0 _ rfl, hbx.1 1 _ rfl⟩
  refine bodyPost_ret (v := .agg #[.slice (some ⟨W.heap.size + 1 + 1, 0, none⟩) 3 3, .slice (some ⟨W.heap.size + 1 + 1 + 1, 0, none⟩) 2 2]) (by simp [results, Try.f15, go_sem, z0, z1]) rfl
    ⟨⟨some ⟨W.heap.size + 1 + 1, 0, none⟩, 3, 3, [hostV ⟨#[105, 110]⟩ 1, ⟨⟨#[100]⟩, d.kind, d.addr, d.pool, d.bA, d.bn, d.bc, d.bs, d.rA, d.rn, d.rc, d.rs, d.tA, d.tn, d.tc, d.ts⟩, hostV ⟨#[111, 117, 116]⟩ 2], some ⟨W.heap.size + 1 + 1 + 1, 0, none⟩, 2, 2, chainL⟩, rfl, ?_, rfl, rfl, hbe⟩
  have hd4 := hd.below hbe (show W.heap.size ≤ W4.heap.size by omega)
  refine ⟨slAt_box DevV.len hbd (by omega), fun x hx => ?_, slAt_box LinkV.len hbl (by omega), fun x hx => ?_, ⟨Nat.le_refl _, show (3 : Nat) ≤ maxLen by unfold maxLen; omega⟩, ⟨Nat.le_refl _, show (2 : Nat) ≤ maxLen by unfold maxLen; omega⟩⟩
  · simp only [List.mem_cons, List.not_mem_nil, or_false] at hx
    rcases hx with rfl | rfl | rfl
    · exact hostAt _ _ _ _ (by unfold maxLen; decide) (by unfold i64ok; omega)
    · exact ⟨show (1 : Nat) ≤ maxLen by unfold maxLen; omega, hd4.kd, hd4.ad, hd4.pl, hd4.bs, hd4.rs, hd4.ts, hd4.tok, hd4.cb, hd4.cr, hd4.ct⟩
    · exact hostAt _ _ _ _ (by unfold maxLen; decide) (by unfold i64ok; omega)
  · simp only [chainL, List.mem_cons, List.not_mem_nil, or_false] at hx
    rcases hx with rfl | rfl <;> simp [LinkV.ok, i64ok]

theorem chain_in {d : Dev} {x y : Int} : placeB (chainD d) (1, y) = (decide (0 ≤ y) && decide (y < portsF d.kind)) := by
  simp [placeB, chainD, kindAt]
theorem chain_net (d : Dev) (hd : devE ⟨⟨#[100]⟩, d.kind, d.addr, d.pool, d.backs, d.rules, d.routes⟩ = 0) (hk : portsF d.kind = 2) : netE (chainD d) chainL = 0 := by
  have h1 : namedB ⟨#[105, 110]⟩ = true := by decide
  have h2 : namedB ⟨#[100]⟩ = true := by decide
  have h3 : namedB ⟨#[111, 117, 116]⟩ = true := by decide
  have n1 : nameEq ⟨#[105, 110]⟩ ⟨#[100]⟩ = false := by simp [nameEq, ByteArray.toList_eq]
  have n2 : nameEq ⟨#[105, 110]⟩ ⟨#[111, 117, 116]⟩ = false := by simp [nameEq, ByteArray.toList_eq]
  have n3 : nameEq ⟨#[100]⟩ ⟨#[111, 117, 116]⟩ = false := by simp [nameEq, ByteArray.toList_eq]
  have v1 : devE ⟨⟨#[105, 110]⟩, 1, 1, 0, [], [], []⟩ = 0 := by decide
  have v3 : devE ⟨⟨#[111, 117, 116]⟩, 1, 2, 0, [], [], []⟩ = 0 := by decide
  have hds : devsE [] (chainD d) = 0 := by
    simp [devsE, chainD, h1, h2, h3, n1, n2, n3, v1, v3, hd]
  have hp : ∀ x : Int, placeB (chainD d) (1, x) = (decide (0 ≤ x) && decide (x < 2)) := fun x => by rw [chain_in (x := 0), hk]
  have p0 : placeB (chainD d) (0, 0) = true := by simp [placeB, chainD, kindAt, portsF]
  have p2 : placeB (chainD d) (2, 0) = true := by simp [placeB, chainD, kindAt, portsF]
  simp only [netE]
  rw [if_neg (by simp [chainD, chainL]), if_pos hds]
  simp [linksE, chainL, LinkV.e1, LinkV.e2, hp, p0, p2, takenB, eqP]

def fireD (R : List RuleV) : Dev := ⟨⟨#[]⟩, 3, 0, 0, [], R, []⟩
theorem fire_dev (R : List RuleV) : devE ⟨⟨#[100]⟩, 3, 0, 0, [], R, []⟩ = if 8 < R.length then 2 else 0 := by
  by_cases h : 8 < R.length
  · simp [devE, addrB, backsB, backsOk, h]
  · simp [devE, addrB, backsB, backsOk, h, checkF, chkF]
theorem fire_net (R : List RuleV) (h : R.length ≤ 8) : netE (chainD (fireD R)) chainL = 0 :=
  chain_net (fireD R) (by show devE ⟨⟨#[100]⟩, 3, 0, 0, [], R, []⟩ = 0; rw [fire_dev, if_neg (by omega)]) rfl
def fireW (A : Option Addr) (n c : Nat) (R : List RuleV) : DevV := ⟨⟨#[]⟩, 3, 0, 0, none, 0, 0, [], A, n, c, R, none, 0, 0, []⟩
theorem fireW_at {w : World} {B : Nat} {A : Option Addr} {n c : Nat} {R : List RuleV} (h : RulesAt w B A n R) (hc : n ≤ c ∧ c ≤ maxLen) : DevAt w B (fireW A n c R) :=
  ⟨Nat.zero_le _, by simp [fireW, i64ok], by simp [fireW, i64ok], by simp [fireW], ⟨rfl, fun x hx => by simp [fireW] at hx, fun h0 => absurd h0 (Nat.lt_irrefl _)⟩, h, ⟨rfl, fun h0 => absurd h0 (Nat.lt_irrefl _)⟩, fun r hr => by simp [fireW] at hr, by simp [fireW], hc, by simp [fireW]⟩
theorem oneRule_at {w : World} {N B : Nat} (h : BoxV w N #[.bool true, .int .u16 65535, .int .u16 65535, .int .u8 255, .int .u8 255]) (hN : N < B) : RulesAt w B (some ⟨N, 0, none⟩) 1 [allR true] :=
  (show SlAt RuleV.cells 5 w B (some ⟨N, 0, none⟩) [allR true].length [allR true] from slAt_box RuleV.len h hN).rules (fun r hr => by
    obtain rfl := List.mem_singleton.1 hr
    exact allR_ok _)
set_option maxRecDepth 100000 in
theorem placeOf_walk (a b : Int) (W : World) : Calls Try.prog 9 #[.int .i64 a, .int .i64 b] W fun e W' => e = .returned (.agg #[.int .i64 a, .int .i64 b]) ∧ RowKit.Below W.heap.size W W' := by
  have hb := (RowKit.Below.refl W.heap.size W).alloc (Nat.le_refl _) (.cells #[.int .i64 a, .int .i64 b] 43)
  have hx := BoxV.new W #[.int .i64 a, .int .i64 b] 43
  go_enter Try.func9, Try.ntmps9
  go_wp2
  have z0 := hx.1 0 _ rfl
  have z1 := hx.1 1 _ rfl
  clear hx
  refine bodyPost_ret (v := .agg #[.int .i64 a, .int .i64 b]) (by simp [results, Try.f9, go_sem, z0, z1]) rfl ⟨rfl, ?_⟩
  first | exact hb | exact (((RowKit.Below.refl W.heap.size W).alloc (Nat.le_refl _) _).setCell (Nat.le_refl _) _).setCell (Nat.le_refl _) _

end Go.Proofs.Ytklbdfgblebniaa

set_option linter.unusedVariables false
set_option linter.unusedSimpArgs false
namespace Go.Proofs.Ytklbdfgblebniaa
open Go.RowKit Go.Maps Bdd

def chD : List Dev := chainD (fireD [allR true])
def cS (a : Nat) : Bdd.Fn := matchF (srcM a)
def cB : Bdd.Fn := andF (cS 2) (flipF (cS 1))
def cR0 : Pl → Bdd.Fn := fun x => if ((1, 0) : Pl) = x then cS 1 else if ((1, 1) : Pl) = x then cS 2 else fun _ => false
def cR1 : Pl → Bdd.Fn := fun x => if ((0, 0) : Pl) = x then cB else if ((2, 0) : Pl) = x then cS 1 else cR0 x
theorem cS1_c : IsC (cS 1) := srcM_c src1_c
theorem cS2_c : IsC (cS 2) := srcM_c src2_c
theorem cB_c : IsC cB := cS2_c.and cS1_c.flip
theorem send_some {ls : List LinkV} {x y : Pl} (h : peerF ls x = some y) (F : Bdd.Fn) (S : Pl → Bdd.Fn) : sendS ls x F S = fun z => if y = z then orF (S y) F else S z := by
  unfold sendS; rw [h]
theorem pc00 : peerF chainL (((0 : Nat) : Int), 0) = some (1, 0) := by decide
theorem pc20 : peerF chainL (((2 : Nat) : Int), 0) = some (1, 1) := by decide
theorem pc10 : peerF chainL (((1 : Nat) : Int), 0) = some (0, 0) := by decide
theorem pc11 : peerF chainL (((1 : Nat) : Int), 1) = some (2, 0) := by decide
def cH0 : Dev := ⟨⟨#[105, 110]⟩, 1, 1, 0, [], [], []⟩
def cH2 : Dev := ⟨⟨#[111, 117, 116]⟩, 1, 2, 0, [], [], []⟩
def cF1 : Dev := ⟨⟨#[100]⟩, 3, 0, 0, [], [allR true], []⟩
theorem chD0 : chD[0]? = some cH0 := rfl
theorem chD1 : chD[1]? = some cF1 := rfl
theorem chD2 : chD[2]? = some cH2 := rfl
theorem chD_get {k : Nat} {d : Dev} (h : chD[k]? = some d) : (k = 0 ∧ d = cH0) ∨ (k = 1 ∧ d = cF1) ∨ (k = 2 ∧ d = cH2) := by
  match k, h with
  | 0, h => left; rw [chD0] at h; cases h; exact ⟨rfl, rfl⟩
  | 1, h => right; left; rw [chD1] at h; cases h; exact ⟨rfl, rfl⟩
  | 2, h => right; right; rw [chD2] at h; cases h; exact ⟨rfl, rfl⟩
  | k + 3, h => rw [List.getElem?_eq_none (by show 3 ≤ k + 3; omega)] at h; cases h

def cE : Pl → Bdd.Fn := fun _ _ => false
theorem first1 : firstTo chD chainL cE 1 = fun z => if ((1, 0) : Pl) = z then cS 1 else fun _ => false := by
  rw [firstTo_succ chD0]
  show hostS chainL 0 cH0 cE = _
  unfold hostS
  rw [if_pos (show cH0.kind = 1 from rfl), send_some pc00]
  funext z
  by_cases h : ((1, 0) : Pl) = z
  · rw [if_pos h, if_pos h]; exact orF_no _
  · rw [if_neg h, if_neg h]; rfl
theorem first2 : firstTo chD chainL cE 2 = firstTo chD chainL cE 1 := by
  rw [firstTo_succ chD1]
  rfl
theorem first3 : firstTo chD chainL cE 3 = cR0 := by
  rw [firstTo_succ chD2, first2, first1]
  unfold hostS
  rw [if_pos (show cH2.kind = 1 from rfl), send_some pc20]
  funext z
  by_cases h : ((1, 1) : Pl) = z
  · subst h
    rw [if_pos rfl, if_neg (by decide)]
    exact orF_no _
  · rw [if_neg h]
    unfold cR0
    by_cases h1 : ((1, 0) : Pl) = z
    · rw [if_pos h1, if_pos h1]
    · rw [if_neg h1, if_neg h1, if_neg h]
theorem fire_chain {Sw Sn : Pl → Bdd.Fn} (h0 : Sw (((1 : Nat) : Int), 0) = cS 1) (h1 : Sw (((1 : Nat) : Int), 1) = cS 2) : fireS chainL 1 [allR true] Sw Sn = fun z => if ((0, 0) : Pl) = z then orF (Sn (0, 0)) cB else if ((2, 0) : Pl) = z then orF (Sn (2, 0)) (cS 1) else Sn z := by
  unfold fireS
  rw [if_pos (by rw [pc11]; rfl), aclAll, h0, h1, andF_yes, send_some pc10, send_some pc11]
  funext z
  by_cases e : ((0, 0) : Pl) = z
  · rw [if_pos e, if_pos e]
    show orF (if ((2, 0) : Pl) = (0, 0) then orF (Sn (2, 0)) (cS 1) else Sn (0, 0)) cB = _
    rw [if_neg (by decide)]
  · rw [if_neg e, if_neg e]
theorem next_chain {Sw Sn : Pl → Bdd.Fn} : nextTo chD chainL Sw Sn 3 = fireS chainL 1 [allR true] Sw Sn := by
  rw [nextTo_succ chD2, nextTo_succ chD1, nextTo_succ chD0]
  rfl
theorem cR0_00 : cR0 (0, 0) = fun _ => false := by unfold cR0; rw [if_neg (by decide), if_neg (by decide)]
theorem cR0_20 : cR0 (2, 0) = fun _ => false := by unfold cR0; rw [if_neg (by decide), if_neg (by decide)]
theorem cR0_10 : cR0 (((1 : Nat) : Int), 0) = cS 1 := by unfold cR0; rw [if_pos (by decide)]
theorem cR0_11 : cR0 (((1 : Nat) : Int), 1) = cS 2 := by unfold cR0; rw [if_neg (by decide), if_pos (by decide)]
theorem cR1_00 : cR1 (0, 0) = cB := by unfold cR1; rw [if_pos (by decide)]
theorem cR1_20 : cR1 (2, 0) = cS 1 := by unfold cR1; rw [if_neg (by decide), if_pos (by decide)]
theorem cR1_10 : cR1 (((1 : Nat) : Int), 0) = cS 1 := by unfold cR1; rw [if_neg (by decide), if_neg (by decide)]; exact cR0_10
theorem cR1_11 : cR1 (((1 : Nat) : Int), 1) = cS 2 := by unfold cR1; rw [if_neg (by decide), if_neg (by decide)]; exact cR0_11
theorem next0 : nextTo chD chainL cR0 cR0 3 = cR1 := by
  rw [next_chain, fire_chain cR0_10 cR0_11, cR0_00, cR0_20, orF_no, orF_no]
  rfl
theorem next1 : nextTo chD chainL cR1 cR1 3 = cR1 := by
  rw [next_chain, fire_chain cR1_10 cR1_11, cR1_00, cR1_20, orF_same, orF_same]
  funext z
  by_cases e : ((0, 0) : Pl) = z
  · subst e; rw [if_pos rfl, cR1_00]
  · rw [if_neg e]
    by_cases e2 : ((2, 0) : Pl) = z
    · subst e2; rw [if_pos rfl, cR1_20]
    · rw [if_neg e2]
theorem chain_round0 : roundS chD chainL 0 = cR0 := first3
theorem chain_round1 : ∀ k, roundS chD chainL (k + 1) = cR1
  | 0 => by
    show nextTo chD chainL (roundS chD chainL 0) (roundS chD chainL 0) 3 = cR1
    rw [chain_round0, next0]
  | k + 1 => by
    show nextTo chD chainL (roundS chD chainL (k + 1)) (roundS chD chainL (k + 1)) 3 = cR1
    rw [chain_round1 k, next1]

theorem send_pc {ls : List LinkV} {x y : Pl} (h : peerF ls x = some y) {F : Bdd.Fn} {S : Pl → Bdd.Fn} (hF : IsC F) (hS : S y = (fun _ => false) ∨ S y = F) : SendPC PCh ls x F S := by
  intro z hz
  rw [h] at hz
  cases hz
  rcases hS with e | e <;> rw [e]
  · rw [orF_no]; exact PCh.pc hF
  · rw [orF_same]; exact PCh.pc hF
theorem chain_firstPC : FirstPC PCh chD chainL cE := by
  intro k d hd hk
  rcases chD_get hd with ⟨rfl, rfl⟩ | ⟨rfl, rfl⟩ | ⟨rfl, rfl⟩
  · exact ⟨srcM_pc src1_c, send_pc pc00 cS1_c (.inl rfl)⟩
  · exact absurd hk (by decide)
  · refine ⟨srcM_pc src2_c, send_pc pc20 cS2_c (.inl ?_)⟩
    rw [first2, first1]
    exact if_neg (by decide)
theorem chain_firePC {Sw Sn : Pl → Bdd.Fn} (h0 : Sw (((1 : Nat) : Int), 0) = cS 1) (h1 : Sw (((1 : Nat) : Int), 1) = cS 2) (n0 : Sn (0, 0) = (fun _ => false) ∨ Sn (0, 0) = cB) (n2 : Sn (2, 0) = (fun _ => false) ∨ Sn (2, 0) = cS 1) : FirePC PCh chainL 1 [allR true] Sw Sn := by
  have e : andF (Sw (((1 : Nat) : Int), 0)) (aclF [allR true]) = cS 1 := by rw [h0, aclAll, andF_yes]
  refine ⟨aclAll_pc, ?_, ?_, ?_, ?_, ?_⟩
  · rw [e]; exact PCh.pc cS1_c
  · rw [e]; exact send_pc pc11 cS1_c n2
  · rw [e]; exact cS1_c.flipPC
  · rw [e, h1]; exact PCh.pc cB_c
  · rw [e, h1]
    refine send_pc pc10 cB_c ?_
    rw [send_some pc11]
    show (if ((2, 0) : Pl) = (0, 0) then orF (Sn (2, 0)) (cS 1) else Sn (0, 0)) = _ ∨ (if ((2, 0) : Pl) = (0, 0) then orF (Sn (2, 0)) (cS 1) else Sn (0, 0)) = _
    rw [if_neg (by decide)]
    exact n0
theorem chain_nextPC' {S : Pl → Bdd.Fn} (h0 : S (((1 : Nat) : Int), 0) = cS 1) (h1 : S (((1 : Nat) : Int), 1) = cS 2) (n0 : S (0, 0) = (fun _ => false) ∨ S (0, 0) = cB) (n2 : S (2, 0) = (fun _ => false) ∨ S (2, 0) = cS 1) : NextPC PCh chD chainL S S := by
  intro k d hd
  rcases chD_get hd with ⟨rfl, rfl⟩ | ⟨rfl, rfl⟩ | ⟨rfl, rfl⟩
  · exact ⟨fun h => absurd h (by decide), fun h => absurd h (by decide), fun h => absurd h (by decide), fun h => absurd h (by decide)⟩
  · refine ⟨fun h => absurd h (by decide), fun _ => ?_, fun h => absurd h (by decide), fun h => absurd h (by decide)⟩
    have e : nextTo chD chainL S S 1 = S := by rw [nextTo_succ chD0]; rfl
    rw [e]
    exact chain_firePC h0 h1 n0 n2
  · exact ⟨fun h => absurd h (by decide), fun h => absurd h (by decide), fun h => absurd h (by decide), fun h => absurd h (by decide)⟩
theorem chain_nextPC : ∀ k, NextPC PCh chD chainL (roundS chD chainL k) (roundS chD chainL k)
  | 0 => by rw [chain_round0]; exact chain_nextPC' cR0_10 cR0_11 (.inl cR0_00) (.inl cR0_20)
  | k + 1 => by rw [chain_round1]; exact chain_nextPC' cR1_10 cR1_11 (.inr cR1_00) (.inr cR1_20)

theorem cS1_at (x : Asg) : cS 1 x = (!x 0 && !x 1 && !x 2 && x 3) := by
  have e2 : (PartV.fn ⟨255, 3, 8⟩) = fun _ => true := all8s
  have e3 : (PartV.fn ⟨65535, 4, 4⟩) = fun _ => true := all16d
  have e4 : (PartV.fn ⟨255, 3, 11⟩) = fun _ => true := all8d
  have e1 : (PartV.fn ⟨2 ^ 1, 4, 0⟩) x = (!x 0 && !x 1 && !x 2 && x 3) := bit_src1 x
  simp only [cS, matchF, srcM, outs, partL, List.foldl_cons, List.foldl_nil, e2, e3, e4, iteF, e1]
  cases x 0 <;> cases x 1 <;> cases x 2 <;> cases x 3 <;> decide
theorem chain_room {A : St} {most : Nat} (he : Ext (newSt 14 most) A) (hm : 2 ≤ most) (hn : NwP PCh (newSt 14 most) A) : A.len ≤ 6578 := by
  have hi := newSt_inv 14 most (by omega) hm
  have hv : A.vars = 14 := he.vars
  have ok : Ok 14 A.ns := hv ▸ he.inv.ok
  obtain ⟨more, e⟩ := he.ns
  have ok' : Ok 14 ((newSt 14 most).ns ++ more) := e ▸ ok
  have := count_new hi.ok ok' roomC (fun j h1 h2 => by
    rw [← e] at h2 ⊢
    exact hn j h1 h2 (den_below ok j h2))
  rw [roomC_len] at this
  show A.ns.length ≤ _
  rw [e, List.length_append]
  have : (newSt 14 most).ns.length = 2 := rfl
  omega
theorem cnt1 : ∀ n, (List.range n).countP (fun c => decide (c / 1024 = 1)) = min (n - 1024) 1024 := by
  intro n
  induction n with
  | zero => rfl
  | succ n ih =>
    rw [List.range_succ, List.countP_append, ih, List.countP_singleton]
    split <;> rename_i h <;> simp only [decide_eq_true_eq] at h <;> omega
theorem cS1_code (c : Nat) (hc : c < 16384) : cS 1 (asgV 14 c) = decide (c / 1024 = 1) := by
  rw [show asgV 14 c = asgOf c from rfl, cS1_at]
  simp only [asgOf, tb]
  rw [Bool.eq_iff_iff]
  simp only [Bool.and_eq_true, Bool.not_eq_true', decide_eq_false_iff_not, decide_eq_true_eq]
  omega
theorem cS1_cnt : cntF 14 14 (cS 1) = 1024 := by
  unfold cntF
  rw [List.countP_congr (p := fun r => cS 1 (asgV 14 r)) (q := fun c => decide (c / 1024 = 1)) (fun c hc => by
    rw [cS1_code c (by simpa using hc)]), cnt1]
  rfl
theorem cB_yes : cB (asgOf 2112) = true := by decide
theorem cB_no : cB (asgOf 2240) = false := by decide
end Go.Proofs.Ytklbdfgblebniaa

set_option linter.unusedVariables false
set_option linter.unusedSimpArgs false
namespace Go.Proofs.Ytklbdfgblebniaa
open Go.RowKit Go.Maps Bdd

theorem chain_K {K : Nat} (hf : roundS chD chainL (K + 1) = roundS chD chainL K) (hu : ∀ k, k < K → roundS chD chainL (k + 1) ≠ roundS chD chainL k) : K = 1 := by
  have hd : roundS chD chainL (0 + 1) ≠ roundS chD chainL 0 := by
    intro e
    have e0 : cR1 = cR0 := (chain_round1 0).symm.trans (e.trans chain_round0)
    have h1 := congrFun (congrFun e0 (0, 0)) (asgOf 2112)
    rw [cR1_00, cR0_00, cB_yes] at h1
    cases h1
  have hne : K ≠ 0 := fun e => by
    subst e
    exact hd hf
  have h2 : ¬ 2 ≤ K := fun h => hu 1 h ((chain_round1 1).trans (chain_round1 0).symm)
  omega
theorem chain_cnt : cntF 14 14 (roundS chD chainL 1 (2, 0)) = 1024 := by rw [chain_round1, cR1_20, cS1_cnt]
theorem chain_scan (a : Asg) : scanI ((List.range (1 + 1)).map fun k => roundS chD chainL k (0, 0)) 0 a = if cB a then 1 else -1 := by
  have e : ((List.range (1 + 1)).map fun k => roundS chD chainL k (0, 0)) = [roundS chD chainL 0 (0, 0), roundS chD chainL 1 (0, 0)] := rfl
  rw [e, chain_round1, chain_round0, cR1_00, cR0_00]
  simp only [scanI]
  rfl
theorem chain_yes : roundP chD chainL 1 (0, 0) ⟨2, 1, 0, 0⟩ = 1 := by
  unfold roundP
  rw [if_pos (by decide), chain_scan, show codeP ⟨2, 1, 0, 0⟩ = 2112 from rfl, cB_yes]
  rfl
theorem chain_no : roundP chD chainL 1 (0, 0) ⟨2, 3, 0, 0⟩ = -1 := by
  unfold roundP
  rw [if_pos (by decide), chain_scan, show codeP ⟨2, 3, 0, 0⟩ = 2240 from rfl, cB_no]
  rfl

set_option maxRecDepth 100000 in
set_option maxHeartbeats 4000000 in
theorem ready_walk (W : World) : Calls Try.prog 5 #[] W fun e W' => e = .returned (.bool true) ∧ RowKit.Below W.heap.size W W' := by
  go_enter Try.func5, Try.ntmps5
  go_wp2_with fail
  refine (allRule_walk true W).mono ?_
  rintro e w2 ⟨rfl, hb⟩
  have hx3 := BoxV.new w2 #[.bool true, .int .u16 65535, .int .u16 65535, .int .u8 255, .int .u8 255] 54
  have hb3 := below_alloc2 w2 (.cells #[.bool true, .int .u16 65535, .int .u16 65535, .int .u8 255, .int .u8 255] 54)
  have hl3 : w2.heap.size < (w2.alloc (.cells #[.bool true, .int .u16 65535, .int .u16 65535, .int .u8 255, .int .u8 255] 54)).heap.size := by simp
  have HB3 := hide (hb.trans (hb3.mono hb.size))
  have HCW := hide (chain_walk (fireW (some ⟨w2.heap.size, 0, none⟩) 1 1 [allR true]) _ (fireW_at (oneRule_at hx3 hl3) ⟨Nat.le_refl _, show 1 ≤ maxLen by unfold maxLen; omega⟩))
  clear hx3 hb3 hl3 hb
  go_wp2_with fail
  refine HCW.out.mono ?_
  clear HCW
  rintro e w4 ⟨m, rfl, hm, hmd, hml, hb⟩
  have HB4 := hide (HB3.out.trans (hb.mono HB3.out.size))
  have hmd' : m.devs = chD := hmd
  have HNW := hide (reachNew_good m 40000 w4 hm (by rw [hmd', hml]; exact fire_net [allR true] (by simp)) (by omega) (by omega) PCh (by rw [hmd', hml]; exact chain_firstPC) (by rw [hmd', hml]; exact chain_nextPC))
  have HMD := hide (And.intro hmd' hml)
  clear hm hb HB3 hmd hml hmd'
  go_wp2_with fail
  refine HNW.out.mono ?_
  clear HNW
  rintro e w5 ⟨hb, ⟨N, K, rfl, hR⟩ | ⟨A, rfl, hx, hn, hf⟩⟩
  case inr =>
    have h1 := chain_room hx (by omega) hn
    have h2 : A.most = 40000 := hx.most
    omega
  rw [HMD.out.1, HMD.out.2] at hR
  obtain rfl : K = 1 := chain_K hR.fix hR.up
  have HB5 := hide (HB4.out.trans (hb.mono HB4.out.size))
  have HR5 := hide hR
  clear hb hR HB4 HMD
  go_wp2_with fail
  refine (rounds_walk N chD chainL 1 w5 HR5.out).mono ?_
  rintro e w6 ⟨rfl, rfl⟩
  go_wp2_with fail
  refine (placeOf_walk 2 0 w5).mono ?_
  rintro e w7 ⟨rfl, hb⟩
  have HB7 := hide (HB5.out.trans (hb.mono HB5.out.size))
  have HR7 := hide (HR5.out.below hb)
  clear hb HB5 HR5
  go_wp2_with fail
  refine (reachCount_walk N chD chainL 1 (2, 0) ⟨by simp [i64ok], by simp [i64ok]⟩ w7 HR7.out).mono ?_
  rintro e w8 ⟨rfl, hb⟩
  have HB8 := hide (HB7.out.trans (hb.mono HB7.out.size))
  have HR8 := hide (HR7.out.below hb)
  clear hb HB7 HR7
  rw [chain_cnt]
  go_wp2_with fail
  refine (placeOf_walk 0 0 w8).mono ?_
  rintro e w9 ⟨rfl, hb⟩
  have HB9 := hide (HB8.out.trans (hb.mono HB8.out.size))
  have HR9 := hide (HR8.out.below hb)
  clear hb HB8 HR8
  go_wp2_with fail
  refine (reachRound_walk N chD chainL 1 (0, 0) ⟨by simp [i64ok], by simp [i64ok]⟩ ⟨2, 1, 0, 0⟩ w9 HR9.out).mono ?_
  rintro e w10 ⟨rfl, hb⟩
  have HB10 := hide (HB9.out.trans (hb.mono HB9.out.size))
  have HR10 := hide (HR9.out.below hb)
  clear hb HB9 HR9
  rw [chain_yes]
  go_wp2_with fail
  refine (placeOf_walk 0 0 w10).mono ?_
  rintro e w11 ⟨rfl, hb⟩
  have HB11 := hide (HB10.out.trans (hb.mono HB10.out.size))
  have HR11 := hide (HR10.out.below hb)
  clear hb HB10 HR10
  go_wp2_with fail
  refine (reachRound_walk N chD chainL 1 (0, 0) ⟨by simp [i64ok], by simp [i64ok]⟩ ⟨2, 3, 0, 0⟩ w11 HR11.out).mono ?_
  rintro e w12 ⟨rfl, hb⟩
  have HB12 := hide (HB11.out.trans (hb.mono HB11.out.size))
  clear hb HB11 HR11
  rw [chain_no]
  go_wp2
  go_ret
  exact ⟨rfl, HB12.out⟩
end Go.Proofs.Ytklbdfgblebniaa

set_option linter.unusedVariables false
set_option linter.unusedSimpArgs false
namespace Go.Proofs.Ytklbdfgblebniaa
open Go.ChangeShapes Go.WideShapes Go.ChangeAt Go.RowKit Go.Joins Go.Deep

section
variable {H : Type} {enc : TypeId × Value → H} {w : World} {base : Nat} {spare : Nat → Bool} {held : Bool} {r : Reach} {b0 : Nat}
theorem slice_weight {P : Program} {t e : TypeId} (ht : P.underlying t = some (.slice e)) {fuel : Nat} {A : Option Addr} {n c : Nat} {y : DataW H × List MemPlace} (hf : DataW.trod enc P w base spare held fuel t [.slice A n c] = some y) :
    n = 0 ∨ ∃ m ∈ y.1.weights P t, n * P.bytesOf e ≤ m := by
  rcases open_slice ht hf with ⟨hcs, hx⟩ | ⟨a, len0, cap0, m, k, D, Pl, hcs, hb, hl, hm, hmm, hx, hi⟩
  · simp only [List.cons.injEq, Value.slice.injEq, and_true] at hcs
    exact .inl hcs.2.1
  · simp only [List.cons.injEq, Value.slice.injEq, and_true] at hcs
    obtain ⟨rfl, rfl, rfl⟩ := hcs
    right
    rw [hx]
    refine ⟨_, by simp only [DataW.weights, ht]; exact List.mem_cons_self, ?_⟩
    simp only [List.length_map, List.length_range]
    exact Nat.mul_le_mul_right _ (Nat.le_add_right _ _)
theorem Try.bytesLink : Try.prog.bytesOf 36 = 32 := by kernel_rfl
theorem Try.bytesDevice : Try.prog.bytesOf 34 = 112 := by kernel_rfl

set_option maxRecDepth 100000 in
set_option maxHeartbeats 1000000 in
theorem open_net_sized {v : Value} {d : DataW H} {p : List MemPlace} (hv : Value.okWide Try.prog w r b0 25 v) (h : DataW.Trod enc Try.prog w base spare held 25 v d p) (hw : ∀ m ∈ d.weights Try.prog 25, m ≤ reachBytes) :
    ∃ n : NetV, NetAt w w.heap.size n ∧ v = n.val ∧ n.ln * 32 ≤ reachBytes ∧ n.dn * 112 ≤ reachBytes := by
  obtain ⟨n, hn, rfl⟩ := open_net hv h
  refine ⟨n, hn, rfl, ?_⟩
  obtain ⟨fuel, hf⟩ := h
  have hf' : DataW.trod enc Try.prog w base spare held fuel 25 [.slice n.dA n.dn n.dc, .slice n.lA n.ln n.lc] = some (d, p) := hf
  obtain ⟨xs, n', _, hxx, hlen, hxl, hg⟩ := DataW.trod_struct Try.underlying25 hf'
  have h0 := hg 0 _ rfl
  have h1 := hg 1 _ rfl
  obtain ⟨y0, e0⟩ := get_some (xs := xs) (i := 0) (by rw [hxl]; decide)
  obtain ⟨y1, e1⟩ := get_some (xs := xs) (i := 1) (by rw [hxl]; decide)
  have hxs : xs = [y0, y1] := by
    match xs, hxl, e0, e1 with
    | [a, b], _, e0, e1 => cases e0; cases e1; rfl
  subst hxs
  rw [e0] at h0
  rw [e1] at h1
  simp [cellsDs1, cellsLs1] at h0 h1
  have hd : d = .agg [y0.1, y1.1] := by cases hxx; rfl
  subst hd
  have hws : ∀ m, (m ∈ y0.1.weights Try.prog 22 ∨ m ∈ y1.1.weights Try.prog 23) → m ≤ reachBytes := fun m hm => hw m (by
    simp only [DataW.weights, Try.underlying25]
    show m ∈ DataW.weightsEach Try.prog [22, 23] [y0.1, y1.1]
    simp only [DataW.weightsEach, List.append_nil, List.mem_append]
    exact hm)
  constructor
  · rcases slice_weight Try.underlying23 h1 with h | ⟨m, hm, hle⟩
    · rw [h]; decide
    · rw [Try.bytesLink] at hle
      exact Nat.le_trans hle (hws m (.inr hm))
  · rcases slice_weight Try.underlying22 h0 with h | ⟨m, hm, hle⟩
    · rw [h]; decide
    · rw [Try.bytesDevice] at hle
      exact Nat.le_trans hle (hws m (.inl hm))
end
end Go.Proofs.Ytklbdfgblebniaa
