/- A part of the proof: Chain, StepSmall, StepF, Mind1, RegE. -/
import Derived.Test.YtifkacnoiocebaaNw8
set_option linter.unusedVariables false
set_option linter.unusedSimpArgs false
set_option maxRecDepth 100000
set_option maxHeartbeats 4000000
namespace Go.Proofs.Ytifkacnoiocebaa
open Go.Maps Go.RowKit
def hostV (s : ByteArray) (a : Int) : DevV := ⟨s, 1, a, 0, none, 0, 0, [], none, 0, 0, [], none, 0, 0, []⟩
def chainD (d : Dev) : List Dev := [⟨⟨#[105, 110]⟩, 1, 1, 0, [], [], []⟩, ⟨⟨#[100]⟩, d.kind, d.addr, d.pool, d.backs, d.rules, d.routes⟩, ⟨⟨#[111, 117, 116]⟩, 1, 2, 0, [], [], []⟩]
def chainL : List LinkV := [⟨0, 0, 1, 0⟩, ⟨1, 1, 2, 0⟩]
theorem slAt_box {α : Type} {cells : α → List Value} {s : Nat} (hs : ∀ r, (cells r).length = s) {w : World} {N B : Nat} {l : List α} (h : BoxV w N (l.flatMap cells).toArray) (hN : N < B) : SlAt cells s w B (some ⟨N, 0, none⟩) l.length l :=
  ⟨rfl, fun _ => ⟨N, 0, rfl, hN, fun k r hr j v hv => by
    rw [Nat.zero_add]
    exact h.1 _ v (by simpa using flat_get hs l k r j v hr hv)⟩⟩
theorem hostAt (w : World) (B : Nat) (s : ByteArray) (a : Int) (hs : s.size ≤ maxLen) (ha : i64ok a) : DevAt w B (hostV s a) :=
  ⟨hs, by simp [hostV, i64ok], ha, by simp [hostV], ⟨rfl, fun x hx => by simp [hostV] at hx, fun h0 => absurd h0 (Nat.lt_irrefl _)⟩, ⟨rfl, fun r hr => by simp [hostV] at hr, fun h0 => absurd h0 (Nat.lt_irrefl _)⟩, ⟨rfl, fun h0 => absurd h0 (Nat.lt_irrefl _)⟩, fun r hr => by simp [hostV] at hr, by simp [hostV], by simp [hostV], by simp [hostV]⟩
theorem chain_walk (d : DevV) (W : World) (hd : DevAt W W.heap.size d) :
    Calls Try.prog 13 #[.agg #[.string d.name, .int .i64 d.kind, .int .i64 d.addr, .int .u8 d.pool, .slice d.bA d.bn d.bc, .slice d.rA d.rn d.rc, .slice d.tA d.tn d.tc]] W fun e W' => ∃ n : NetV, e = .returned n.val ∧ NetAt W' W'.heap.size n ∧ n.devs = chainD d.dev ∧ n.ls = chainL ∧ Below W.heap.size W W' := by
  go_enter Try.func13, Try.ntmps13
  go_wp2
  generalize hW : World.alloc _ _ = W4
  obtain ⟨hq, hb⟩ := boxesV (B := W4.heap.size) [(#[.string ⟨#[100]⟩, .int .i64 d.kind, .int .i64 d.addr, .int .u8 d.pool, .slice d.bA d.bn d.bc, .slice d.rA d.rn d.rc, .slice d.tA d.tn d.tc], 61),
    (#[.slice (some ⟨W.heap.size + 1 + 1, 0, none⟩) 3 3, .slice (some ⟨W.heap.size + 1 + 1 + 1, 0, none⟩) 2 2], 25),
    (([hostV ⟨#[105, 110]⟩ 1, ⟨⟨#[100]⟩, d.kind, d.addr, d.pool, d.bA, d.bn, d.bc, d.bs, d.rA, d.rn, d.rc, d.rs, d.tA, d.tn, d.tc, d.ts⟩, hostV ⟨#[111, 117, 116]⟩ 2].flatMap DevV.cells).toArray, 61),
    ((chainL.flatMap LinkV.cells).toArray, 66)] W (W' := W4) (by rw [← hW]; exact Below.refl _ _)
  have hs : W4.heap.size = W.heap.size + 4 := by rw [← hW]; simp
  clear hW
  have hbx := hq 1 _ _ rfl (by omega)
  have hbd := hq 2 _ _ rfl (by omega)
  have hbl := hq 3 _ _ rfl (by omega)
  have hbe := hb (by omega)
  obtain ⟨z0, z1⟩ : W4.cell? ⟨W.heap.size + 1, 0, none⟩ = some (.slice (some ⟨W.heap.size + 1 + 1, 0, none⟩) 3 3) ∧ W4.cell? ⟨W.heap.size + 1, 1, none⟩ = some (.slice (some ⟨W.heap.size + 1 + 1 + 1, 0, none⟩) 2 2) := ⟨hbx.1 0 _ rfl, hbx.1 1 _ rfl⟩
  refine bodyPost_ret (v := .agg #[.slice (some ⟨W.heap.size + 1 + 1, 0, none⟩) 3 3, .slice (some ⟨W.heap.size + 1 + 1 + 1, 0, none⟩) 2 2]) (by simp [results, Try.f13, go_sem, z0, z1]) rfl
    ⟨⟨some ⟨W.heap.size + 1 + 1, 0, none⟩, 3, 3, [hostV ⟨#[105, 110]⟩ 1, ⟨⟨#[100]⟩, d.kind, d.addr, d.pool, d.bA, d.bn, d.bc, d.bs, d.rA, d.rn, d.rc, d.rs, d.tA, d.tn, d.tc, d.ts⟩, hostV ⟨#[111, 117, 116]⟩ 2], some ⟨W.heap.size + 1 + 1 + 1, 0, none⟩, 2, 2, chainL⟩, rfl, ?_, rfl, rfl, hbe⟩
  have hd4 := hd.below hbe (show W.heap.size ≤ W4.heap.size by omega)
  refine ⟨slAt_box DevV.len hbd (by omega), fun x hx => ?_, slAt_box LinkV.len hbl (by omega), fun x hx => ?_, ⟨Nat.le_refl _, show (3 : Nat) ≤ maxLen by unfold maxLen; omega⟩, ⟨Nat.le_refl _, show (2 : Nat) ≤ maxLen by unfold maxLen; omega⟩⟩
  · simp only [List.mem_cons, List.not_mem_nil, or_false] at hx
    rcases hx with rfl | rfl | rfl
    · exact hostAt _ _ _ _ (by unfold maxLen; decide) (by unfold i64ok; omega)
    · exact ⟨show (1 : Nat) ≤ maxLen by unfold maxLen; omega, hd4.kd, hd4.ad, hd4.pl, hd4.bs, hd4.rs, hd4.ts, hd4.tok, hd4.cb, hd4.cr, hd4.ct⟩
    · exact hostAt _ _ _ _ (by unfold maxLen; decide) (by unfold i64ok; omega)
  · simp only [chainL, List.mem_cons, List.not_mem_nil, or_false] at hx
    rcases hx with rfl | rfl <;> simp [LinkV.ok, i64ok]
theorem chain_in {d : Dev} {x y : Int} : placeB (chainD d) (1, y) = (decide (0 ≤ y) && decide (y < portsF d.kind)) := by
  simp [placeB, chainD, kindAt]
theorem peer1 : peerF chainL (1, 1) = some (2, 0) := by decide
theorem chain_net (d : Dev) (hd : devE ⟨⟨#[100]⟩, d.kind, d.addr, d.pool, d.backs, d.rules, d.routes⟩ = 0) (hk : portsF d.kind = 2) : netE (chainD d) chainL = 0 := by
  have h1 : namedB ⟨#[105, 110]⟩ = true := by decide
  have h2 : namedB ⟨#[100]⟩ = true := by decide
  have h3 : namedB ⟨#[111, 117, 116]⟩ = true := by decide
  have n1 : nameEq ⟨#[105, 110]⟩ ⟨#[100]⟩ = false := by simp [nameEq, ByteArray.toList_eq]
  have n2 : nameEq ⟨#[105, 110]⟩ ⟨#[111, 117, 116]⟩ = false := by simp [nameEq, ByteArray.toList_eq]
  have n3 : nameEq ⟨#[100]⟩ ⟨#[111, 117, 116]⟩ = false := by simp [nameEq, ByteArray.toList_eq]
  have v1 : devE ⟨⟨#[105, 110]⟩, 1, 1, 0, [], [], []⟩ = 0 := by decide
  have v3 : devE ⟨⟨#[111, 117, 116]⟩, 1, 2, 0, [], [], []⟩ = 0 := by decide
  have hds : devsE [] (chainD d) = 0 := by
    simp [devsE, chainD, h1, h2, h3, n1, n2, n3, v1, v3, hd]
  have hp : ∀ x : Int, placeB (chainD d) (1, x) = (decide (0 ≤ x) && decide (x < 2)) := fun x => by rw [chain_in (x := 0), hk]
  have p0 : placeB (chainD d) (0, 0) = true := by simp [placeB, chainD, kindAt, portsF]
  have p2 : placeB (chainD d) (2, 0) = true := by simp [placeB, chainD, kindAt, portsF]
  simp only [netE]
  rw [if_neg (by simp [chainD, chainL]), if_pos hds]
  simp [linksE, chainL, LinkV.e1, LinkV.e2, hp, p0, p2, takenB, eqP]
def fireD (R : List RuleV) : Dev := ⟨⟨#[]⟩, 3, 0, 0, [], R, []⟩
theorem fire_dev (R : List RuleV) : devE ⟨⟨#[100]⟩, 3, 0, 0, [], R, []⟩ = if 8 < R.length then 2 else 0 := by
  by_cases h : 8 < R.length
  · simp [devE, addrB, backsB, backsOk, h]
  · simp [devE, addrB, backsB, backsOk, h, checkF, chkF]
theorem fire_net (R : List RuleV) (h : R.length ≤ 8) : netE (chainD (fireD R)) chainL = 0 :=
  chain_net (fireD R) (by show devE ⟨⟨#[100]⟩, 3, 0, 0, [], R, []⟩ = 0; rw [fire_dev, if_neg (by omega)]) rfl
def fireW (A : Option Addr) (n c : Nat) (R : List RuleV) : DevV := ⟨⟨#[]⟩, 3, 0, 0, none, 0, 0, [], A, n, c, R, none, 0, 0, []⟩
theorem fireW_at {w : World} {B : Nat} {A : Option Addr} {n c : Nat} {R : List RuleV} (h : RulesAt w B A n R) (hc : n ≤ c ∧ c ≤ maxLen) : DevAt w B (fireW A n c R) :=
  ⟨Nat.zero_le _, by simp [fireW, i64ok], by simp [fireW, i64ok], by simp [fireW], ⟨rfl, fun x hx => by simp [fireW] at hx, fun h0 => absurd h0 (Nat.lt_irrefl _)⟩, h, ⟨rfl, fun h0 => absurd h0 (Nat.lt_irrefl _)⟩, fun r hr => by simp [fireW] at hr, by simp [fireW], hc, by simp [fireW]⟩
theorem oneRule_at {w : World} {N B : Nat} (h : BoxV w N #[.bool true, .int .u16 65535, .int .u16 65535, .int .u8 255, .int .u8 255]) (hN : N < B) : RulesAt w B (some ⟨N, 0, none⟩) 1 [allR true] :=
  (show SlAt RuleV.cells 5 w B (some ⟨N, 0, none⟩) [allR true].length [allR true] from slAt_box RuleV.len h hN).rules (fun r hr => by
    obtain rfl := List.mem_singleton.1 hr
    exact allR_ok _)
theorem placeOf_walk (a b : Int) (W : World) : Calls Try.prog 16 #[.int .i64 a, .int .i64 b] W fun e W' => e = .returned (.agg #[.int .i64 a, .int .i64 b]) ∧ RowKit.Below W.heap.size W W' := by
  have hb := (RowKit.Below.refl W.heap.size W).alloc (Nat.le_refl _) (.cells #[.int .i64 a, .int .i64 b] 45)
  have hx := BoxV.new W #[.int .i64 a, .int .i64 b] 45
  go_enter Try.func16, Try.ntmps16
  go_wp2
  have z0 := hx.1 0 _ rfl
  have z1 := hx.1 1 _ rfl
  clear hx
  refine bodyPost_ret (v := .agg #[.int .i64 a, .int .i64 b]) (by simp [results, Try.f16, go_sem, z0, z1]) rfl ⟨rfl, ?_⟩
  first | exact hb | exact (((RowKit.Below.refl W.heap.size W).alloc (Nat.le_refl _) _).setCell (Nat.le_refl _) _).setCell (Nat.le_refl _) _
end Go.Proofs.Ytifkacnoiocebaa
namespace Go.Proofs.Ytifkacnoiocebaa
open Go.RowKit
def Box4 (w : World) (N : Nat) (a b c d : Int) : Prop := (w.cell? ⟨N, 0, none⟩ = some (.int .i64 a) ∧ w.cell? ⟨N, 1, none⟩ = some (.int .i64 b) ∧ w.cell? ⟨N, 2, none⟩ = some (.int .i64 c) ∧ w.cell? ⟨N, 3, none⟩ = some (.int .i64 d)) ∧ ∀ o, w.frozen? ⟨N, o, none⟩ = false
theorem Box4.new (w : World) (a b c d : Int) (t : TypeId) : Box4 (w.alloc (.cells #[.int .i64 a, .int .i64 b, .int .i64 c, .int .i64 d] t)) w.heap.size a b c d := by
  have hbx := heap_alloc_new w (.cells #[.int .i64 a, .int .i64 b, .int .i64 c, .int .i64 d] t)
  refine ⟨⟨?_, ?_, ?_, ?_⟩, fun o => by unfold World.frozen?; rw [hbx]; simp⟩ <;> (rw [cell_of_row _ _ _ _ _ _ hbx]; rfl)
theorem Box4.below {w w' : World} {B N : Nat} {a b c d : Int} (h : Box4 w N a b c d) (hB : Below B w w') (hN : N < B) : Box4 w' N a b c d := by
  have ee : ∀ o, w'.cell? ⟨N, o, none⟩ = w.cell? ⟨N, o, none⟩ := fun o => hB.cell (p := ⟨N, o, none⟩) hN
  have ff : ∀ o, w'.frozen? ⟨N, o, none⟩ = w.frozen? ⟨N, o, none⟩ := fun o => hB.frozen (p := ⟨N, o, none⟩) hN
  unfold Box4
  rw [ee, ee, ee, ee]
  exact ⟨h.1, fun o => (ff o).trans (h.2 o)⟩
def flipP (p : P4) : P4 := ⟨p.dst, p.src, p.dport, p.sport⟩
theorem flip_walk (p : P4) (W : World) : Calls Try.prog 71 #[.agg #[.int .i64 p.src, .int .i64 p.dst, .int .i64 p.sport, .int .i64 p.dport]] W fun e W' => e = .returned (.agg #[.int .i64 p.dst, .int .i64 p.src, .int .i64 p.dport, .int .i64 p.sport]) ∧ RowKit.Below W.heap.size W W' := by
  obtain ⟨a, b, c, d⟩ := p
  simp only
  have HB := hide (show ∀ o o', RowKit.Below W.heap.size W ((W.alloc o).alloc o') from fun o o' => ((RowKit.Below.refl W.heap.size W).alloc (Nat.le_refl _) o).alloc (by simp) o')
  have hx := Box4.new W a b c d 38
  have hy := Box4.new (W.alloc (.cells #[.int .i64 a, .int .i64 b, .int .i64 c, .int .i64 d] 38)) 0 0 0 0 38
  have hx2 := hx.below ((RowKit.Below.refl _ _).alloc (Nat.le_refl _) (.cells #[.int .i64 0, .int .i64 0, .int .i64 0, .int .i64 0] 38)) (by simp)
  rw [show (W.alloc (.cells #[.int .i64 a, .int .i64 b, .int .i64 c, .int .i64 d] 38)).heap.size = W.heap.size + 1 from by simp] at hy
  obtain ⟨⟨x0, x1, x2, x3⟩, _⟩ := hx2
  obtain ⟨⟨y0, y1, y2, y3⟩, yf⟩ := hy
  clear hx
  have hb0 := HB.out (.cells #[.int .i64 a, .int .i64 b, .int .i64 c, .int .i64 d] 38) (.cells #[.int .i64 0, .int .i64 0, .int .i64 0, .int .i64 0] 38)
  go_enter Try.func71, Try.ntmps71
  go_wp2
  refine bodyPost_ret (v := .agg #[.int .i64 b, .int .i64 a, .int .i64 d, .int .i64 c]) (by simp [results, Try.f71, go_sem, y0, y1, y2, y3]) rfl ⟨rfl, ?_⟩
  first | exact HB.out _ _ | exact (((hb0.setCell (by show _ ≤ W.heap.size + 1; omega) _).setCell (by show _ ≤ W.heap.size + 1; omega) _).setCell (by show _ ≤ W.heap.size + 1; omega) _).setCell (by show _ ≤ W.heap.size + 1; omega) _
open Go.Maps
structure GoneS where
  port : Int
  q : P4
  kn : Know
def GoneS.zero : GoneS := ⟨0, ⟨0, 0, 0, 0⟩, .nothing⟩
def fireF (r : Dev) (M : MemS) (i y : Int) (p : P4) : GoneS × Bool :=
  if y = 0 then (⟨1, p, .flow (i, p)⟩, letsB r.rules p) else (⟨0, p, .nothing⟩, M.F (i, flipP p))
def mineG (M : MemS) (i : Int) (o : Int × Int) : Nat → Nat → Int
  | 0, _ => -1
  | m + 1, k => if M.O (i, (k : Int)) = some o then (k : Int) else mineG M i o m (k + 1)
def mineF (M : MemS) (i : Int) (o : Int × Int) : Int := mineG M i o 8 0
def hasBit (pool : Nat) (c : Int) : Bool := pool.testBit c.toNat
def natH (r : Dev) (M : MemS) (i y : Int) (p : P4) (ch : Int) : GoneS × Bool × Int :=
  if y = 1 then
    if p.dst ≠ r.addr then (.zero, false, 0)
    else match M.O (i, p.dport) with
      | some o => (⟨0, ⟨p.src, o.1, p.sport, o.2⟩, .nothing⟩, true, 0)
      | none => (.zero, false, 0)
  else if 0 ≤ mineF M i (p.src, p.sport) then
    (⟨1, ⟨r.addr, p.dst, mineF M i (p.src, p.sport), p.dport⟩, .owner (i, mineF M i (p.src, p.sport)) (p.src, p.sport)⟩, true, 0)
  else if ch < 0 ∨ 8 ≤ ch ∨ hasBit r.pool ch = false then (.zero, false, 1)
  else if (M.O (i, ch)).isSome then (.zero, false, 6)
  else (⟨1, ⟨r.addr, p.dst, ch, p.dport⟩, .owner (i, ch) (p.src, p.sport)⟩, true, 0)
def balF (r : Dev) (M : MemS) (i y : Int) (p : P4) (ch : Int) : GoneS × Int :=
  if y = 1 then
    (⟨0, if M.B (i, ⟨p.dst, r.addr, p.dport, p.sport⟩) = some p.src then ⟨r.addr, p.dst, p.sport, p.dport⟩ else p, .nothing⟩, 0)
  else if p.dst ≠ r.addr then (⟨1, p, .nothing⟩, 0)
  else match M.B (i, p) with
    | some b => (⟨1, ⟨p.src, b, p.sport, p.dport⟩, .back (i, p) b⟩, 0)
    | none => match (if ch < 0 then none else r.backs[ch.toNat]?) with
      | some b => (⟨1, ⟨p.src, b, p.sport, p.dport⟩, .back (i, p) b⟩, 0)
      | none => (.zero, 1)
def routF (r : Dev) (p : P4) : GoneS × Bool := (⟨(outF p.dst r.routes).1, p, .nothing⟩, decide (0 ≤ (outF p.dst r.routes).2) && letsB r.rules p)
def outS (r : Dev) (M : MemS) (i y : Int) (p : P4) (ch : Int) : GoneS × Bool × Int :=
  if r.kind = 2 then ((routF r p).1, (routF r p).2, 0)
  else if r.kind = 3 then ((fireF r M i y p).1, (fireF r M i y p).2, 0)
  else if r.kind = 4 then natH r M i y p ch
  else if r.kind = 5 then ((balF r M i y p ch).1, decide ((balF r M i y p ch).2 = 0), (balF r M i y p ch).2)
  else (.zero, false, 0)
structure HandS where
  e : Int
  to : Pl
  q : P4
  kn : Know
def HandS.bad (e : Int) : HandS := ⟨e, (0, 0), ⟨0, 0, 0, 0⟩, .nothing⟩
def goS (ls : List LinkV) (i : Int) (x : GoneS × Bool × Int) : HandS :=
  if x.2.2 ≠ 0 then .bad x.2.2
  else match peerF ls (i, x.1.port) with
    | none => .bad 7
    | some to => if x.2.1 then ⟨0, to, x.1.q, x.1.kn⟩ else .bad 7
def handS (ds : List Dev) (ls : List LinkV) (M : MemS) (i y : Int) (p : P4) (ch : Int) : HandS :=
  if placeB ds (i, y) = false then .bad 4
  else if rightB p = false then .bad 1
  else match ds[i.toNat]? with
    | none => .bad 4
    | some r => goS ls i (outS r M i y p ch)
def HandS.val (h : HandS) : Value := .tuple #[.agg #[.int .i64 h.to.1, .int .i64 h.to.2, .int .i64 h.q.src, .int .i64 h.q.dst, .int .i64 h.q.sport, .int .i64 h.q.dport], .int .i64 h.e]
theorem info_device : (Try.prog.info? 61).map (·.size) = some 7 := by kernel_rfl
theorem info_owner : (Try.prog.info? 120).map (·.size) = some 2 := by kernel_rfl
def DevV.arr (d : DevV) : Array Value := #[.string d.name, .int .i64 d.kind, .int .i64 d.addr, .int .u8 d.pool, .slice d.bA d.bn d.bc, .slice d.rA d.rn d.rc, .slice d.tA d.tn d.tc]
theorem DevV.arr_one (d : DevV) : d.arr.all (·.oneCell') = true := by simp [DevV.arr, Value.oneCell']
structure AtDev (W : World) (g : Nat) (n : NetV) (f o b : Nat) (M : MemS) (k : Nat) (i y : Int) (p : P4) (r : DevV) (G : Nat) (w : World) : Prop where
  memW : ∀ w', Below W.heap.size W w' → MemAt w' g n f o b M k
  bl : Below W.heap.size W w
  b0 : BoxV w W.heap.size #[.pointer (some ⟨g, 0, none⟩)]
  b1 : BoxV w (W.heap.size + 1) #[.int .i64 i, .int .i64 y]
  b2 : BoxV w (W.heap.size + 1 + 1) #[.int .i64 p.src, .int .i64 p.dst, .int .i64 p.sport, .int .i64 p.dport]
  b3 : BoxV w (W.heap.size + 1 + 1 + 1) #[.int .i64 0, .int .i64 0, .int .i64 0, .int .i64 0, .int .i64 0, .nilFunc]
  bd : BoxV w G r.arr
  hg : W.heap.size + 1 + 1 + 1 < G
  lt : G < w.heap.size
theorem AtDev.mem {W : World} {g : Nat} {n : NetV} {f o b : Nat} {M : MemS} {k : Nat} {i y : Int} {p : P4} {r : DevV} {G : Nat} {w : World} (h : AtDev W g n f o b M k i y p r G w) : MemAt w g n f o b M k := h.memW w h.bl
theorem AtDev.below {W : World} {g : Nat} {n : NetV} {f o b : Nat} {M : MemS} {k : Nat} {i y : Int} {p : P4} {r : DevV} {G : Nat} {w w' : World} (h : AtDev W g n f o b M k i y p r G w) (hb : Below w.heap.size w w') : AtDev W g n f o b M k i y p r G w' := by
  have h1 := h.lt
  have h2 := h.hg
  have h3 := h.bl.size
  exact ⟨h.memW, h.bl.trans (hb.mono h3), h.b0.below hb (by omega), h.b1.below hb (by omega), h.b2.below hb (by omega), h.b3.below hb (by omega), h.bd.below hb h1, h2, by have := hb.size; omega⟩
theorem AtDev.alloc {W : World} {g : Nat} {n : NetV} {f o b : Nat} {M : MemS} {k : Nat} {i y : Int} {p : P4} {r : DevV} {G : Nat} {w : World} (h : AtDev W g n f o b M k i y p r G w) (x : Obj) : AtDev W g n f o b M k i y p r G (w.alloc x) := h.below ((Below.refl _ _).alloc (Nat.le_refl _) x)
theorem AtDev.far {W : World} {g : Nat} {n : NetV} {f o b : Nat} {M : MemS} {k : Nat} {i y : Int} {p : P4} {r : DevV} {G : Nat} {w : World} (h : AtDev W g n f o b M k i y p r G w) (a : Addr) (v : Value) (ha : G < a.block) : AtDev W g n f o b M k i y p r G (w.setCell a v) := by
  have h2 := h.hg
  have h3 := h.bl.size
  exact ⟨h.memW, h.bl.setCell (by omega) v, h.b0.far _ _ (by omega), h.b1.far _ _ (by omega), h.b2.far _ _ (by omega), h.b3.far _ _ (by omega), h.bd.far _ _ (by omega), h2, by have := h.lt; simpa [World.setCell] using this⟩
theorem BoxV.apart {w : World} {N : Nat} {vs : Array Value} (h : BoxV w N vs) (b : Nat) (cs : List Value) (hne : b ≠ N) : BoxV (w.setCells b 0 cs) N vs :=
  ⟨fun j v hv => by rw [World.cell?_setCells_out b cs 0 w ⟨N, j, none⟩ (fun e _ => absurd e.symm hne)]; exact h.1 j v hv, fun o => by rw [World.frozen?_setCells]; exact h.2 o⟩
end Go.Proofs.Ytifkacnoiocebaa
namespace Go.Proofs.Ytifkacnoiocebaa
open Go.RowKit
structure FactV where
  d : Int
  p : P4
  n : Int
def eq4 (p q : P4) : Bool := p.src == q.src && p.dst == q.dst && p.sport == q.sport && p.dport == q.dport
theorem eq4_iff (p q : P4) : eq4 p q = true ↔ p = q := by
  obtain ⟨a, b, c, d⟩ := p
  obtain ⟨a', b', c', d'⟩ := q
  simp [eq4, and_assoc]
end Go.Proofs.Ytifkacnoiocebaa
namespace Go.Proofs.Ytifkacnoiocebaa
structure ClosedL (md : Region.Mode) (ops : Array Oper) (listed : Array Bool) : Prop where
  size : listed.size = ops.size
  closed : ∀ j oj, ops[j]? = some oj → listed.getD j false = true → ∀ e ∈ oj.after, Region.binds md e = true → listed.getD e.on false = true
def chainOk (md : Region.Mode) (ops : Array Oper) : List Nat → Bool
  | i :: j :: r => Region.waitsFor md ops j i && chainOk md ops (j :: r)
  | _ => true
section
variable {P : Program} {ops : Array Oper} {Q : Exit → Act → World → Prop} {md : Region.Mode} {S : World → Prop} {s : Nat}
theorem ClosedL.set {i : Nat} {listed : Array Bool} (inv : ClosedL md ops listed) (hi : i ∈ Region.ready md ops listed) : ClosedL md ops (listed.setIfInBounds i true) := by
  obtain ⟨_, oi, hoi, hall⟩ := mem_ready.1 hi
  refine ⟨by simp [inv.size], fun j oj hj hl e he hb => ?_⟩
  by_cases hij : i = j
  · subst hij
    have : oj = oi := Option.some.inj (hj.symm.trans hoi)
    subst this
    exact getD_set_true (hall e he hb)
  · rw [getD_set_ne false hij] at hl
    exact getD_set_true (inv.closed j oj hj hl e he hb)
theorem chain_back {listed : Array Bool} (inv : ClosedL md ops listed) : ∀ (c : List Nat) (i s : Nat), chainOk md ops (i :: c) = true → (i :: c).getLast? = some s → listed.getD s false = true → listed.getD i false = true
  | [], i, s, _, hl, h => by simp at hl; rw [hl]; exact h
  | j :: r, i, s, hc, hl, h => by
    simp only [chainOk, Bool.and_eq_true] at hc
    have h1 := chain_back inv r j s hc.2 (by simpa using hl) h
    obtain ⟨oj, hoj, e, he, hb, hon⟩ := Region.waitsFor_spec hc.1
    have := inv.closed j oj hoj h1 e he hb
    rwa [hon] at this
theorem chain_unlisted {listed : Array Bool} (inv : ClosedL md ops listed) {c : List Nat} {i : Nat} (hc : chainOk md ops (i :: c) = true) (hl : (i :: c).getLast? = some s) (hs : s < ops.size) (hi : listed.getD i true = false) : listed.getD s true = false := by
  cases h : listed.getD s false with
  | true => have := chain_back inv c i s hc hl h; rw [getD_both hi] at this; cases this
  | false => exact getD_in (by rw [inv.size]; exact hs) h
def wpAnyE (P : Program) (md : Region.Mode) (ops : Array Oper) (Q : Exit → Act → World → Prop) (S : World → Prop) (s : Nat) : Nat → Array Bool → Act → World → Prop
  | 0, listed, a, w => Region.ready md ops listed = [] ∧ Q .normal a w
  | fuel + 1, listed, a, w =>
    (Region.ready md ops listed = [] → Q .normal a w) ∧
    ∀ i ∈ Region.ready md ops listed, wpOp P ops Q i (fun a' w' => ((listed.setIfInBounds i true).getD s true = false → S w') ∧ wpAnyE P md ops Q S s fuel (listed.setIfInBounds i true) a' w') a w
theorem wpAny_of_E : ∀ (fuel : Nat) (listed : Array Bool) (a : Act) (w : World), wpAnyE P md ops Q S s fuel listed a w → wpAny P md ops Q fuel listed a w
  | 0, _, _, _, h => h
  | fuel + 1, _, _, _, h => ⟨h.1, fun i hi => wpOp_mono (fun a' w' h' => wpAny_of_E fuel _ a' w' h'.2) (h.2 i hi)⟩
theorem wpAnyE_first {i : Nat} {oi : Oper} {v : Value} {S' : World → Prop} (hi : ops[i]? = some oi) (hsel : ∀ (j : Nat) (o : Oper) cs b, ops[j]? = some o → o.op ≠ .select cs b) (his : i ≠ s)
    (hS' : ∀ (listed : Array Bool) (w : World), ClosedL md ops listed → listed.getD i true = false → (listed.getD s true = false → S w) → S' w)
    (hQ : ∀ c a w, Q (.panic c) (a.put oi.dst v) w → Q (.panic c) a w) :
    ∀ (fuel : Nat) (listed : Array Bool) (a : Act) (w : World), ClosedL md ops listed →
      (∀ j oj, ops[j]? = some oj → j ≠ i → listed.getD j true = false → (∀ e ∈ oj.after, Region.binds md e = true → e.on ≠ i) → oi.apart ops oj = true) →
      i ∈ Region.ready md ops listed → YieldsIf P ops S' oi v a → (listed.getD s true = false → S w) →
      wpAnyE P md ops Q S s fuel (listed.setIfInBounds i true) (a.put oi.dst v) w → wpAnyE P md ops Q S s (fuel + 1) listed a w := by
  have same : ∀ (l : Array Bool), (l.setIfInBounds i true).getD s true = l.getD s true := fun l => getD_set_ne true his
  intro fuel
  induction fuel with
  | zero =>
    intro listed a w inv _ hr hy hS H
    have hun := (mem_ready.1 hr).1
    refine ⟨fun h => (by rw [h] at hr; cases hr), fun j hj => ?_⟩
    by_cases hji : j = i
    · subst hji; exact hy.wpOp hi (hS' listed w inv hun hS) ⟨fun h => hS (by rwa [same] at h), H⟩
    · have := ready_mono hj hji
      rw [H.1] at this
      cases this
  | succ fuel ih =>
    intro listed a w inv hfree hr hy hS H
    have hun := (mem_ready.1 hr).1
    refine ⟨fun h => (by rw [h] at hr; cases hr), fun j hj => ?_⟩
    by_cases hji : j = i
    · subst hji; exact hy.wpOp hi (hS' listed w inv hun hS) ⟨fun h => hS (by rwa [same] at h), H⟩
    · have h1 := H.2 j (ready_mono hj hji)
      obtain ⟨hjun, oj, hoj, hall⟩ := mem_ready.1 hj
      have hnot : ∀ e ∈ oj.after, Region.binds md e = true → e.on ≠ i := fun e he hb heq => by
        have h1 := hall e he hb
        rw [heq, getD_both hun] at h1
        cases h1
      have h2 := wpOp_putIf hoj (hfree j oj hoj hji hjun hnot) (fun cs b => hsel i oi cs b hi) (fun cs b => hsel j oj cs b hoj) hQ hy h1
      have hfree' : ∀ k ok, ops[k]? = some ok → k ≠ i → (listed.setIfInBounds j true).getD k true = false →
          (∀ e ∈ ok.after, Region.binds md e = true → e.on ≠ i) → oi.apart ops ok = true := fun k ok hk hki hun hno => by
        refine hfree k ok hk hki ?_ hno
        by_cases hjk : j = k
        · subst hjk; exact hjun
        · rw [getD_set_ne true hjk] at hun; exact hun
      refine wpOp_mono (fun a' w' h3 => ?_) h2
      have hS2 : (listed.setIfInBounds j true).getD s true = false → S w' := fun h => h3.2.1 (by rw [Array.setIfInBounds_comm _ _ (Ne.symm hji), same]; exact h)
      refine ⟨hS2, ih (listed.setIfInBounds j true) a' w' (inv.set hj) hfree' (ready_mono hr (Ne.symm hji)) h3.1 hS2 ?_⟩
      rw [Array.setIfInBounds_comm _ _ hji]
      exact h3.2.2
theorem wpAnyE_load {i : Nat} {oi : Oper} {v : Value} {fuel : Nat} {listed : Array Bool} {a : Act} {w : World} (c : List Nat) (hi0 : ops.toList[i]? = some oi) (hs : Region.noSelect ops = true) (hf : Region.free md ops listed i = true)
    (hr : (Region.ready md ops listed).contains i = true) (his : decide (i ≠ s) && decide (s < ops.size) && chainOk md ops (i :: c) && decide ((i :: c).getLast? = some s) = true) (hQ : ∀ c a w, Q (.panic c) (a.put oi.dst v) w → Q (.panic c) a w) (inv : Shut (ClosedL md ops listed)) (hy : YieldsIf P ops S oi v a) (hS : S w)
    (h : Shut (ClosedL md ops (listed.setIfInBounds i true)) → wpAnyE P md ops Q S s fuel (listed.setIfInBounds i true) (a.put oi.dst v) w) : wpAnyE P md ops Q S s (fuel + 1) listed a w := by
  have hi : ops[i]? = some oi := by simpa using hi0
  simp only [Bool.and_eq_true, decide_eq_true_eq] at his
  have hr' : i ∈ Region.ready md ops listed := by simpa using hr
  exact wpAnyE_first hi (Region.noSelect_spec hs) his.1.1.1 (fun l w inv hun hS => hS (chain_unlisted inv his.1.2 his.2 his.1.1.2 hun)) hQ fuel listed a w inv.out (Region.free_spec hi hf) hr' hy (fun _ => hS) (h (inv.out.set hr'))
theorem wpAnyE_pure {i : Nat} {oi : Oper} {v : Value} {fuel : Nat} {listed : Array Bool} {a : Act} {w : World} (hi0 : ops.toList[i]? = some oi) (hs : Region.noSelect ops = true) (hf : Region.free md ops listed i = true)
    (hr : (Region.ready md ops listed).contains i = true) (his : decide (i ≠ s) = true) (hQ : ∀ c a w, Q (.panic c) (a.put oi.dst v) w → Q (.panic c) a w) (inv : Shut (ClosedL md ops listed)) (hy : YieldsIf P ops (fun _ => True) oi v a) (hS : listed.getD s true = false → S w)
    (h : Shut (ClosedL md ops (listed.setIfInBounds i true)) → wpAnyE P md ops Q S s fuel (listed.setIfInBounds i true) (a.put oi.dst v) w) : wpAnyE P md ops Q S s (fuel + 1) listed a w := by
  have hi : ops[i]? = some oi := by simpa using hi0
  have hr' : i ∈ Region.ready md ops listed := by simpa using hr
  exact wpAnyE_first hi (Region.noSelect_spec hs) (by simpa using his) (fun _ _ _ _ _ => trivial) hQ fuel listed a w inv.out (Region.free_spec hi hf) hr' hy hS (h (inv.out.set hr'))
theorem wpAnyE_one {i : Nat} {o : Oper} {fuel : Nat} {listed : Array Bool} {a : Act} {w : World} (ho0 : ops.toList[i]? = some o) (hr : Region.ready md ops listed = [i]) (inv : Shut (ClosedL md ops listed))
    (h : ∀ K' : Act → World → Prop, Shut (∀ a w, ((listed.setIfInBounds i true).getD s true = false → S w) → (Shut (ClosedL md ops (listed.setIfInBounds i true)) → wpAnyE P md ops Q S s fuel (listed.setIfInBounds i true) a w) → K' a w) → if Region.wanted o (yielded ops a.tmps) = true then Oper.wp P o a w K' Q else K' (a.put o.dst undef) w) :
    wpAnyE P md ops Q S s (fuel + 1) listed a w := by
  have ho : ops[i]? = some o := by simpa using ho0
  have hi : i ∈ Region.ready md ops listed := by rw [hr]; simp
  refine ⟨fun h0 => (by rw [h0] at hr; cases hr), fun j hj => ?_⟩
  rw [hr] at hj
  have : j = i := by simpa using hj
  subst this
  exact wpOp_step ho (fun K hK => h K (fun a w hS hW => hK a w ⟨hS, hW (inv.out.set hi)⟩))
theorem wpAnyE_late {i : Nat} {o : Oper} {fuel : Nat} {listed : Array Bool} {a : Act} {w : World} (ho0 : ops.toList[i]? = some o) (hr : Region.ready md ops listed = [i]) (inv : Shut (ClosedL md ops listed)) (hx : (listed.setIfInBounds i true).getD s true = true)
    (h : ∀ K' : Act → World → Prop, Shut (∀ a w, (Shut (ClosedL md ops (listed.setIfInBounds i true)) → wpAnyE P md ops Q S s fuel (listed.setIfInBounds i true) a w) → K' a w) → if Region.wanted o (yielded ops a.tmps) = true then Oper.wp P o a w K' Q else K' (a.put o.dst undef) w) :
    wpAnyE P md ops Q S s (fuel + 1) listed a w := by
  have ho : ops[i]? = some o := by simpa using ho0
  have hi : i ∈ Region.ready md ops listed := by rw [hr]; simp
  refine ⟨fun h0 => (by rw [h0] at hr; cases hr), fun j hj => ?_⟩
  rw [hr] at hj
  have : j = i := by simpa using hj
  subst this
  exact wpOp_step ho (fun K hK => h K (fun a w hW => hK a w ⟨fun h => (by rw [hx] at h; cases h), hW (inv.out.set hi)⟩))
theorem wpAnyE_done {listed : Array Bool} {a : Act} {w : World} (hr : Region.ready md ops listed = []) (h : Q .normal a w) : ∀ fuel, wpAnyE P md ops Q S s fuel listed a w
  | 0 => ⟨hr, h⟩
  | _ + 1 => ⟨fun _ => h, by rw [hr]; simp⟩
theorem wp_region_E {id : Nat} {a : Act} {w : World} (S : World → Prop) (s : Nat) (hm : P.follows .mixedOrders = true) (hS : S w.drew)
    (h : S w.drew → Shut (ClosedL .any ops (Array.replicate ops.size false)) → wpAnyE P .any ops Q S s ops.size (Array.replicate ops.size false) a w.drew) : (Code.region id ops true).wp P Q a w :=
  wp_region_any hm (wpAny_of_E _ _ _ _ (h hS (show ClosedL .any ops (Array.replicate ops.size false) from ⟨by simp, fun j oj _ hl => (by rw [getD_replicate_false] at hl; cases hl)⟩)))
end
section
variable {P : Program} {ops : Array Oper} {Q : Exit → Act → World → Prop} {md : Region.Mode} {S : World → Prop} {s : Nat} {fuel : Nat} {listed l : Array Bool} {a b : Act} {w : World} {oi : Oper} {v : Value}
theorem rP (i : Nat) (hS : S w) (h : Shut (ClosedL md ops l) → wpAnyE P md ops Q S s fuel l b w)
    (hi0 : ops.toList[i]? = some oi := by rfl)
    (q0 : Region.noSelect ops = true := by kernel_rfl) (q1 : Region.free md ops listed i = true := by kernel_rfl) (q2 : (Region.ready md ops listed).contains i = true := by kernel_rfl) (q3 : decide (i ≠ s) = true := by kernel_rfl)
    (q4 : Region.wanted oi (yielded ops a.tmps) = true := by rfl)
    (hy : ∀ w, True → (execOp a.eval oi).run P w = .ok (.value v) w := by intro w _; go_simp; try with_reducible rfl)
    (hQ : ∀ c a w, Q (.panic c) (a.put oi.dst v) w → Q (.panic c) a w := by exact fun _ _ _ h => h)
    (hl : listed.setIfInBounds i true = l := by first | (simp only [nrmA, nrmB, nrmC]; exact rfl) | exact rfl)
    (hb : a.put oi.dst v = b := by first | (simp only [Act.put, nrmA, nrmB, nrmC]; exact rfl) | exact rfl) : Shut (ClosedL md ops listed) → wpAnyE P md ops Q S s (fuel + 1) listed a w :=
  fun inv => wpAnyE_pure hi0 q0 q1 q2 q3 hQ inv (.inl ⟨q4, hy⟩) (fun _ => hS) (by rw [hl, hb]; exact h)
theorem rK (i : Nat) (hS : S w) (h : Shut (ClosedL md ops l) → wpAnyE P md ops Q S s fuel l b w)
    (hi0 : ops.toList[i]? = some oi := by rfl)
    (q0 : Region.noSelect ops = true := by kernel_rfl) (q1 : Region.free md ops listed i = true := by kernel_rfl) (q2 : (Region.ready md ops listed).contains i = true := by kernel_rfl) (q3 : decide (i ≠ s) = true := by kernel_rfl)
    (q4 : Region.wanted oi (yielded ops a.tmps) = false := by rfl)
    (hQ : ∀ c a w, Q (.panic c) (a.put oi.dst undef) w → Q (.panic c) a w := by exact fun _ _ _ h => h)
    (hl : listed.setIfInBounds i true = l := by first | (simp only [nrmA, nrmB, nrmC]; exact rfl) | exact rfl)
    (hb : a.put oi.dst undef = b := by first | (simp only [Act.put, nrmA, nrmB, nrmC]; exact rfl) | exact rfl) : Shut (ClosedL md ops listed) → wpAnyE P md ops Q S s (fuel + 1) listed a w :=
  fun inv => wpAnyE_pure hi0 q0 q1 q2 q3 hQ inv (.inr ⟨q4, rfl⟩) (fun _ => hS) (by rw [hl, hb]; exact h)
theorem rL (i : Nat) (c : List Nat) (hi0 : ops.toList[i]? = some oi) (hS : S w)
    (hy : ∀ w, S w → (execOp a.eval oi).run P w = .ok (.value v) w)
    (h : Shut (ClosedL md ops l) → wpAnyE P md ops Q S s fuel l b w)
    (q0 : Region.noSelect ops = true := by kernel_rfl) (q1 : Region.free md ops listed i = true := by kernel_rfl) (q2 : (Region.ready md ops listed).contains i = true := by kernel_rfl) (q3 : decide (i ≠ s) && decide (s < ops.size) && chainOk md ops (i :: c) && decide ((i :: c).getLast? = some s) = true := by kernel_rfl)
    (q4 : Region.wanted oi (yielded ops a.tmps) = true := by rfl)
    (hQ : ∀ c a w, Q (.panic c) (a.put oi.dst v) w → Q (.panic c) a w := by exact fun _ _ _ h => h)
    (hl : listed.setIfInBounds i true = l := by first | (simp only [nrmA, nrmB, nrmC]; exact rfl) | exact rfl)
    (hb : a.put oi.dst v = b := by first | (simp only [Act.put, nrmA, nrmB, nrmC]; exact rfl) | exact rfl) : Shut (ClosedL md ops listed) → wpAnyE P md ops Q S s (fuel + 1) listed a w :=
  fun inv => wpAnyE_load c hi0 q0 q1 q2 q3 hQ inv (.inl ⟨q4, hy⟩) hS (by rw [hl, hb]; exact h)
theorem rT (i : Nat) (inv : Shut (ClosedL md ops listed))
    (h : ∀ K' : Act → World → Prop, Shut (∀ a w, (Shut (ClosedL md ops (listed.setIfInBounds i true)) → wpAnyE P md ops Q S s fuel (listed.setIfInBounds i true) a w) → K' a w) → if Region.wanted oi (yielded ops a.tmps) = true then Oper.wp P oi a w K' Q else K' (a.put oi.dst undef) w)
    (hi0 : ops.toList[i]? = some oi := by rfl) (hr : Region.ready md ops listed = [i] := by kernel_rfl) (hx : (listed.setIfInBounds i true).getD s true = true := by kernel_rfl) : wpAnyE P md ops Q S s (fuel + 1) listed a w :=
  wpAnyE_late hi0 hr inv hx h
theorem rO (i : Nat) (inv : Shut (ClosedL md ops listed))
    (h : ∀ K' : Act → World → Prop, Shut (∀ a w, ((listed.setIfInBounds i true).getD s true = false → S w) → (Shut (ClosedL md ops (listed.setIfInBounds i true)) → wpAnyE P md ops Q S s fuel (listed.setIfInBounds i true) a w) → K' a w) → if Region.wanted oi (yielded ops a.tmps) = true then Oper.wp P oi a w K' Q else K' (a.put oi.dst undef) w)
    (hi0 : ops.toList[i]? = some oi := by rfl) (hr : Region.ready md ops listed = [i] := by kernel_rfl) : wpAnyE P md ops Q S s (fuel + 1) listed a w :=
  wpAnyE_one hi0 hr inv h
theorem rD (h : Q .normal a w) (hr : Region.ready md ops listed = [] := by kernel_rfl) : wpAnyE P md ops Q S s fuel listed a w :=
  wpAnyE_done hr h fuel
end
end Go.Proofs.Ytifkacnoiocebaa
