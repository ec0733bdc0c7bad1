/- A part of the proof: RefPeer, StepSmall, StepF, Mind1, RegE. -/
import Derived.Test.YthaiffjalgionaaPl10
import Derived.StillTailTactics
import Derived.Deep.RegionHeld3
/- wireref.Peer. -/
set_option linter.unusedVariables false
set_option linter.unusedSimpArgs false
namespace Go.Proofs.Ythaiffjalgionaa
open Go.RowKit

theorem beqI (a b : Int) : (a == b) = (b == a) := by
  rw [Bool.eq_iff_iff, beq_iff_eq, beq_iff_eq]; exact eq_comm

set_option maxRecDepth 100000 in
set_option maxHeartbeats 8000000 in
theorem refPeer_any (dA : Option Addr) (dn dc : Nat) (lA : Option Addr) (ln lc : Nat) (ls : List LinkV) (x y : Int) (W : World) (hn : ln ≤ 9223372036854775807) (hl : SlAt LinkV.cells 4 W W.heap.size lA ln ls) :
    Calls Try.prog 75 #[.agg #[.slice dA dn dc, .slice lA ln lc], .agg #[.int .i64 x, .int .i64 y]] W fun e W' => e = .returned (peerV (peerF ls (x, y))) ∧ Below W.heap.size W W' := by
  have HL := hide (fun (w' : World) (hb : RowKit.Below W.heap.size W w') => show SlAt LinkV.cells 4 w' w'.heap.size lA ln ls from hl.below hb hb.size)
  have HLL := hide hl.1
  clear hl
  have hG : ∃ W0, W0 = ((W.alloc (.cells #[.slice dA dn dc, .slice lA ln lc] 25)).alloc (.cells #[.int .i64 x, .int .i64 y] 37)).alloc (.cells #[.int .i64 0, .int .i64 0] 37) := ⟨_, rfl⟩
  obtain ⟨W0, hG⟩ := hG
  have hz : W0.heap.size = W.heap.size + 3 := by rw [hG]; simp
  have HQ := hide (fun (w' : World) (hb : RowKit.Below W0.heap.size W0 w') => show (w'.cell? ⟨W.heap.size, 1, none⟩ = some (.slice lA ln lc) ∧ w'.cell? ⟨W.heap.size + 1, 0, none⟩ = some (.int .i64 x) ∧ w'.cell? ⟨W.heap.size + 1, 1, none⟩ = some (.int .i64 y)) ∧ Box2 w' (W.heap.size + 1 + 1) 0 0 ∧ RowKit.Below W.heap.size W w' from by
    have hbB : Box2 W0 (W.heap.size + 1 + 1) 0 0 := by
      rw [hG]
      have := Box2.new ((W.alloc (.cells #[.slice dA dn dc, .slice lA ln lc] 25)).alloc (.cells #[.int .i64 x, .int .i64 y] 37)) 0 0 37
      simpa using this
    have hbox := hbB.below hb (by omega)
    rw [hz, hG] at hb
    obtain ⟨c, h1, h2⟩ := boxesL [(#[.slice dA dn dc, .slice lA ln lc], 25), (#[.int .i64 x, .int .i64 y], 37), (#[.int .i64 0, .int .i64 0], 37)] W hb
    exact ⟨⟨c 0 _ _ rfl 1 _ rfl, c 1 _ _ rfl 0 _ rfl, c 1 _ _ rfl 1 _ rfl⟩, hbox, h1⟩)
  have HG := hide hG
  have HR := hide (RowKit.Below.refl W0.heap.size W0)
  have HZ := hide hz
  clear hG hz
  go_enter Try.func75, Try.ntmps75
  go_wp2
  rw [← HG.out]
  go_loopw [6] (fun i wr => ∃ k : Nat, k ≤ ln ∧ i = .int .i64 k ∧ Hid (peerF ls (x, y) = peerF (ls.drop k) (x, y)) ∧ Hid (RowKit.Below W0.heap.size W0 wr)) (fun i _ => ln - (intOf i).toNat)
  case atStart => exact ⟨0, Nat.zero_le _, rfl, hide rfl, HR⟩
  case round =>
    clear HR
    obtain ⟨k, hk, rfl, HE, HB⟩ := hrel
    obtain ⟨⟨x0, x1, x2⟩, ⟨z0, z1, z2, z3⟩, hbW⟩ := HQ.out wr HB.out
    have HBW := hide hbW
    clear hbW
    by_cases hlt : k < ln
    · obtain ⟨r, hr⟩ : ∃ r, ls[k]? = some r := ⟨_, List.getElem?_eq_getElem (by have := HLL.out; omega)⟩
      have HS := hide (peerF_drop hr (x, y))
      obtain ⟨b, o, rfl, _, _⟩ := (HL.out _ HBW.out).2 (by omega)
      obtain ⟨hbB, q0, q1, q2, q3⟩ := link_get (HL.out _ HBW.out) hr
      have HBA := hide (fun o => show RowKit.Below W0.heap.size W0 (wr.alloc o) from HB.out.alloc HB.out.size o)
      have v1 := fun o => (HQ.out _ (HBA.out o)).1.2.1
      have v2 := fun o => (HQ.out _ (HBA.out o)).1.2.2
      have v3 := fun o => (HQ.out _ (HBA.out o)).2.1.1
      have v4 := fun o => (HQ.out _ (HBA.out o)).2.1.2.1
      have v5 := fun o => (HQ.out _ (HBA.out o)).2.1.2.2.1
      have v6 := fun o => (HQ.out _ (HBA.out o)).2.1.2.2.2
      have HBB := hide (fun o => (HQ.out _ (HBA.out o)).2.2)
      clear hr
      obtain ⟨ra, rp, rb, rq⟩ := r
      cases e1 : (ra == x)
      · cases e3 : (rb == x)
        · have HN := hide (show peerF ls (x, y) = peerF (ls.drop (k + 1)) (x, y) from by rw [HE.out, HS.out]; simp only [eqP, LinkV.e1, LinkV.e2, beqI x, beqI y, e1, e3, Bool.false_and, Bool.and_false, Bool.false_eq_true, if_false])
          go_wp2
          go_roundw
          case rel => exact ⟨k + 1, by omega, by go_num, HN, hide (HBA.out _)⟩
          case measure => simp [intOf]; omega
        · cases e4 : (rq == y)
          · have HN := hide (show peerF ls (x, y) = peerF (ls.drop (k + 1)) (x, y) from by rw [HE.out, HS.out]; simp only [eqP, LinkV.e1, LinkV.e2, beqI x, beqI y, e1, e3, e4, Bool.false_and, Bool.and_false, Bool.false_eq_true, if_false])
            go_wp2
            go_roundw
            case rel => exact ⟨k + 1, by omega, by go_num, HN, hide (HBA.out _)⟩
            case measure => simp [intOf]; omega
          · have HN := hide (show peerF ls (x, y) = some (ra, rp) from by rw [HE.out, HS.out]; simp only [eqP, LinkV.e1, LinkV.e2, beqI x, beqI y, e1, e3, e4, Bool.false_and, Bool.and_false, Bool.and_self, Bool.false_eq_true, if_false, if_true])
            go_wp2
            refine bodyPost_ret (v := .tuple #[.agg #[.int .i64 ra, .int .i64 rp], .bool true]) (by simp [results, Try.results75, go_sem, v3, v4]) rfl ⟨by rw [HN.out]; rfl, ?_⟩
            exact ((HBB.out _).setCell (le2 _) _).setCell (le2 _) _
      · cases e2 : (rp == y)
        · cases e3 : (rb == x)
          · have HN := hide (show peerF ls (x, y) = peerF (ls.drop (k + 1)) (x, y) from by rw [HE.out, HS.out]; simp only [eqP, LinkV.e1, LinkV.e2, beqI x, beqI y, e1, e2, e3, Bool.false_and, Bool.and_false, Bool.false_eq_true, if_false])
            go_wp2
            go_roundw
            case rel => exact ⟨k + 1, by omega, by go_num, HN, hide (HBA.out _)⟩
            case measure => simp [intOf]; omega
          · cases e4 : (rq == y)
            · have HN := hide (show peerF ls (x, y) = peerF (ls.drop (k + 1)) (x, y) from by rw [HE.out, HS.out]; simp only [eqP, LinkV.e1, LinkV.e2, beqI x, beqI y, e1, e2, e3, e4, Bool.false_and, Bool.and_false, Bool.false_eq_true, if_false])
              go_wp2
              go_roundw
              case rel => exact ⟨k + 1, by omega, by go_num, HN, hide (HBA.out _)⟩
              case measure => simp [intOf]; omega
            · have HN := hide (show peerF ls (x, y) = some (ra, rp) from by rw [HE.out, HS.out]; simp only [eqP, LinkV.e1, LinkV.e2, beqI x, beqI y, e1, e2, e3, e4, Bool.false_and, Bool.and_false, Bool.and_self, Bool.false_eq_true, if_false, if_true])
              go_wp2
              refine bodyPost_ret (v := .tuple #[.agg #[.int .i64 ra, .int .i64 rp], .bool true]) (by simp [results, Try.results75, go_sem, v3, v4]) rfl ⟨by rw [HN.out]; rfl, ?_⟩
              exact ((HBB.out _).setCell (le2 _) _).setCell (le2 _) _
        · have HN := hide (show peerF ls (x, y) = some (rb, rq) from by rw [HE.out, HS.out]; simp only [eqP, LinkV.e1, LinkV.e2, beqI x, beqI y, e1, e2, Bool.false_and, Bool.and_false, Bool.and_self, Bool.false_eq_true, if_false, if_true])
          go_wp2
          refine bodyPost_ret (v := .tuple #[.agg #[.int .i64 rb, .int .i64 rq], .bool true]) (by simp [results, Try.results75, go_sem, v3, v4]) rfl ⟨by rw [HN.out]; rfl, ?_⟩
          exact ((HBB.out _).setCell (le2 _) _).setCell (le2 _) _
    · have HN := hide (show peerF ls (x, y) = none from by rw [HE.out, List.drop_of_length_le (by have := HLL.out; omega)]; rfl)
      go_wp2
      refine bodyPost_ret (v := .tuple #[.agg #[.int .i64 0, .int .i64 0], .bool false]) (by simp [results, Try.results75, go_sem, z0, z1]) rfl ⟨by rw [HN.out]; rfl, ?_⟩
      exact (HBW.out.setCell (le2 _) _).setCell (le2 _) _
end Go.Proofs.Ythaiffjalgionaa

/- wirekeep.place; the small parts of the step laws. -/
set_option linter.unusedVariables false
set_option linter.unusedSimpArgs false
namespace Go.Proofs.Ythaiffjalgionaa
open Go.RowKit

/-- A box of a packet. -/
def Box4 (w : World) (N : Nat) (a b c d : Int) : Prop := (w.cell? ⟨N, 0, none⟩ = some (.int .i64 a) ∧ w.cell? ⟨N, 1, none⟩ = some (.int .i64 b) ∧ w.cell? ⟨N, 2, none⟩ = some (.int .i64 c) ∧ w.cell? ⟨N, 3, none⟩ = some (.int .i64 d)) ∧ ∀ o, w.frozen? ⟨N, o, none⟩ = false
theorem Box4.new (w : World) (a b c d : Int) (t : TypeId) : Box4 (w.alloc (.cells #[.int .i64 a, .int .i64 b, .int .i64 c, .int .i64 d] t)) w.heap.size a b c d := by
  have hbx := heap_alloc_new w (.cells #[.int .i64 a, .int .i64 b, .int .i64 c, .int .i64 d] t)
  refine ⟨⟨?_, ?_, ?_, ?_⟩, fun o => by unfold World.frozen?; rw [hbx]; simp⟩ <;> (rw [cell_of_row _ _ _ _ _ _ hbx]; rfl)
theorem Box4.below {w w' : World} {B N : Nat} {a b c d : Int} (h : Box4 w N a b c d) (hB : Below B w w') (hN : N < B) : Box4 w' N a b c d := by
  have ee : ∀ o, w'.cell? ⟨N, o, none⟩ = w.cell? ⟨N, o, none⟩ := fun o => hB.cell (p := ⟨N, o, none⟩) hN
  have ff : ∀ o, w'.frozen? ⟨N, o, none⟩ = w.frozen? ⟨N, o, none⟩ := fun o => hB.frozen (p := ⟨N, o, none⟩) hN
  unfold Box4
  rw [ee, ee, ee, ee]
  exact ⟨h.1, fun o => (ff o).trans (h.2 o)⟩

def flipP (p : P4) : P4 := ⟨p.dst, p.src, p.dport, p.sport⟩
set_option maxRecDepth 100000 in
set_option maxHeartbeats 4000000 in
theorem flip_walk (p : P4) (W : World) : Calls Try.prog 163 #[.agg #[.int .i64 p.src, .int .i64 p.dst, .int .i64 p.sport, .int .i64 p.dport]] W fun e W' => e = .returned (.agg #[.int .i64 p.dst, .int .i64 p.src, .int .i64 p.dport, .int .i64 p.sport]) ∧ RowKit.Below W.heap.size W W' := by
  obtain ⟨a, b, c, d⟩ := p
  simp only
  have HB := hide (show ∀ o o', RowKit.Below W.heap.size W ((W.alloc o).alloc o') from fun o o' => ((RowKit.Below.refl W.heap.size W).alloc (Nat.le_refl _) o).alloc (by simp) o')
  have hx := Box4.new W a b c d 39
  have hy := Box4.new (W.alloc (.cells #[.int .i64 a, .int .i64 b, .int .i64 c, .int .i64 d] 39)) 0 0 0 0 39
  have hx2 := hx.below ((RowKit.Below.refl _ _).alloc (Nat.le_refl _) (.cells #[.int .i64 0, .int .i64 0, .int .i64 0, .int .i64 0] 39)) (by simp)
  rw [show (W.alloc (.cells #[.int .i64 a, .int .i64 b, .int .i64 c, .int .i64 d] 39)).heap.size = W.heap.size + 1 from by simp] at hy
  obtain ⟨⟨x0, x1, x2, x3⟩, _⟩ := hx2
  obtain ⟨⟨y0, y1, y2, y3⟩, yf⟩ := hy
  clear hx
  have hb0 := HB.out (.cells #[.int .i64 a, .int .i64 b, .int .i64 c, .int .i64 d] 39) (.cells #[.int .i64 0, .int .i64 0, .int .i64 0, .int .i64 0] 39)
  go_enter Try.func163, Try.ntmps163
  go_wp2
  refine bodyPost_ret (v := .agg #[.int .i64 b, .int .i64 a, .int .i64 d, .int .i64 c]) (by simp [results, Try.f163, go_sem, y0, y1, y2, y3]) rfl ⟨rfl, ?_⟩
  first | exact HB.out _ _ | exact (((hb0.setCell (by show _ ≤ W.heap.size + 1; omega) _).setCell (by show _ ≤ W.heap.size + 1; omega) _).setCell (by show _ ≤ W.heap.size + 1; omega) _).setCell (by show _ ≤ W.heap.size + 1; omega) _
end Go.Proofs.Ythaiffjalgionaa

/- What package step does, plainly. -/
set_option linter.unusedVariables false
set_option linter.unusedSimpArgs false
namespace Go.Proofs.Ythaiffjalgionaa
open Go.RowKit Go.Maps

/-- What goes out: the port, the packet, what is known then. -/
structure GoneS where
  port : Int
  q : P4
  kn : Know
def GoneS.zero : GoneS := ⟨0, ⟨0, 0, 0, 0⟩, .nothing⟩

def fireF (r : Dev) (M : MS) (i y : Int) (p : P4) : GoneS × Bool :=
  if y = 0 then (⟨1, p, .flow (i, p)⟩, letsB r.rules p) else (⟨0, p, .nothing⟩, M.F (i, flipP p))
/-- The port from k on (of so many that are left) that an owner has; -1: none. -/
def mineG (M : MS) (i : Int) (o : Int × Int) : Nat → Nat → Int
  | 0, _ => -1
  | m + 1, k => if M.O (i, (k : Int)) = some o then (k : Int) else mineG M i o m (k + 1)
def mineF (M : MS) (i : Int) (o : Int × Int) : Int := mineG M i o 8 0
def hasBit (pool : Nat) (c : Int) : Bool := pool.testBit c.toNat
def natF (r : Dev) (M : MS) (i y : Int) (p : P4) (ch : Int) : GoneS × Bool × Int :=
  if y = 1 then
    if p.dst ≠ r.addr then (.zero, false, 0)
    else match M.O (i, p.dport) with
      | some o => (⟨0, ⟨p.src, o.1, p.sport, o.2⟩, .nothing⟩, true, 0)
      | none => (.zero, false, 0)
  else if 0 ≤ mineF M i (p.src, p.sport) then
    (⟨1, ⟨r.addr, p.dst, mineF M i (p.src, p.sport), p.dport⟩, .owner (i, mineF M i (p.src, p.sport)) (p.src, p.sport)⟩, true, 0)
  else if ch < 0 ∨ 8 ≤ ch ∨ hasBit r.pool ch = false then (.zero, false, 1)
  else if (M.O (i, ch)).isSome then (.zero, false, 6)
  else (⟨1, ⟨r.addr, p.dst, ch, p.dport⟩, .owner (i, ch) (p.src, p.sport)⟩, true, 0)
def balF (r : Dev) (M : MS) (i y : Int) (p : P4) (ch : Int) : GoneS × Int :=
  if y = 1 then
    (⟨0, if M.B (i, ⟨p.dst, r.addr, p.dport, p.sport⟩) = some p.src then ⟨r.addr, p.dst, p.sport, p.dport⟩ else p, .nothing⟩, 0)
  else if p.dst ≠ r.addr then (⟨1, p, .nothing⟩, 0)
  else match M.B (i, p) with
    | some b => (⟨1, ⟨p.src, b, p.sport, p.dport⟩, .back (i, p) b⟩, 0)
    | none => match (if ch < 0 then none else r.backs[ch.toNat]?) with
      | some b => (⟨1, ⟨p.src, b, p.sport, p.dport⟩, .back (i, p) b⟩, 0)
      | none => (.zero, 1)
def routF (r : Dev) (p : P4) : GoneS × Bool := (⟨(outF p.dst r.routes).1, p, .nothing⟩, decide (0 ≤ (outF p.dst r.routes).2) && letsB r.rules p)
def outS (r : Dev) (M : MS) (i y : Int) (p : P4) (ch : Int) : GoneS × Bool × Int :=
  if r.kind = 2 then ((routF r p).1, (routF r p).2, 0)
  else if r.kind = 3 then ((fireF r M i y p).1, (fireF r M i y p).2, 0)
  else if r.kind = 4 then natF r M i y p ch
  else if r.kind = 5 then ((balF r M i y p ch).1, decide ((balF r M i y p ch).2 = 0), (balF r M i y p ch).2)
  else (.zero, false, 0)

/-- An answer of Handle: the error; where it comes in next; the packet; what is known then. -/
structure HandS where
  e : Int
  to : Pl
  q : P4
  kn : Know
def HandS.bad (e : Int) : HandS := ⟨e, (0, 0), ⟨0, 0, 0, 0⟩, .nothing⟩
def goS (ls : List LinkV) (i : Int) (x : GoneS × Bool × Int) : HandS :=
  if x.2.2 ≠ 0 then .bad x.2.2
  else match peerF ls (i, x.1.port) with
    | none => .bad 7
    | some to => if x.2.1 then ⟨0, to, x.1.q, x.1.kn⟩ else .bad 7
def handS (ds : List Dev) (ls : List LinkV) (M : MS) (i y : Int) (p : P4) (ch : Int) : HandS :=
  if placeB ds (i, y) = false then .bad 4
  else if rightB p = false then .bad 1
  else match ds[i.toNat]? with
    | none => .bad 4
    | some r => goS ls i (outS r M i y p ch)
def HandS.val (h : HandS) : Value := .tuple #[.agg #[.int .i64 h.to.1, .int .i64 h.to.2, .int .i64 h.q.src, .int .i64 h.q.dst, .int .i64 h.q.sport, .int .i64 h.q.dport], .int .i64 h.e]

theorem info_device : (Try.prog.info? 97).map (·.size) = some 7 := by kernel_rfl
theorem info_owner : (Try.prog.info? 154).map (·.size) = some 2 := by kernel_rfl
def DevV.arr (d : DevV) : Array Value := #[.string d.name, .int .i64 d.kind, .int .i64 d.addr, .int .u8 d.pool, .slice d.bA d.bn d.bc, .slice d.rA d.rn d.rc, .slice d.tA d.tn d.tc]

theorem DevV.arr_one (d : DevV) : d.arr.all (·.oneCell') = true := by simp [DevV.arr, Value.oneCell']

/-- What stands where a device's function has its device at hand. -/
structure AtDev (W : World) (g : Nat) (n : NetV) (f o b : Nat) (M : MS) (k : Nat) (i y : Int) (p : P4) (r : DevV) (G : Nat) (w : World) : Prop where
  memW : ∀ w', Below W.heap.size W w' → MemAt w' g n f o b M k
  bl : Below W.heap.size W w
  b0 : BoxV w W.heap.size #[.pointer (some ⟨g, 0, none⟩)]
  b1 : BoxV w (W.heap.size + 1) #[.int .i64 i, .int .i64 y]
  b2 : BoxV w (W.heap.size + 1 + 1) #[.int .i64 p.src, .int .i64 p.dst, .int .i64 p.sport, .int .i64 p.dport]
  b3 : BoxV w (W.heap.size + 1 + 1 + 1) #[.int .i64 0, .int .i64 0, .int .i64 0, .int .i64 0, .int .i64 0, .nilFunc]
  bd : BoxV w G r.arr
  hg : W.heap.size + 1 + 1 + 1 < G
  lt : G < w.heap.size
theorem AtDev.mem {W : World} {g : Nat} {n : NetV} {f o b : Nat} {M : MS} {k : Nat} {i y : Int} {p : P4} {r : DevV} {G : Nat} {w : World} (h : AtDev W g n f o b M k i y p r G w) : MemAt w g n f o b M k := h.memW w h.bl
theorem AtDev.below {W : World} {g : Nat} {n : NetV} {f o b : Nat} {M : MS} {k : Nat} {i y : Int} {p : P4} {r : DevV} {G : Nat} {w w' : World} (h : AtDev W g n f o b M k i y p r G w) (hb : Below w.heap.size w w') : AtDev W g n f o b M k i y p r G w' := by
  have h1 := h.lt
  have h2 := h.hg
  have h3 := h.bl.size
  exact ⟨h.memW, h.bl.trans (hb.mono h3), h.b0.below hb (by omega), h.b1.below hb (by omega), h.b2.below hb (by omega), h.b3.below hb (by omega), h.bd.below hb h1, h2, by have := hb.size; omega⟩

theorem AtDev.alloc {W : World} {g : Nat} {n : NetV} {f o b : Nat} {M : MS} {k : Nat} {i y : Int} {p : P4} {r : DevV} {G : Nat} {w : World} (h : AtDev W g n f o b M k i y p r G w) (x : Obj) : AtDev W g n f o b M k i y p r G (w.alloc x) := h.below ((Below.refl _ _).alloc (Nat.le_refl _) x)
theorem AtDev.far {W : World} {g : Nat} {n : NetV} {f o b : Nat} {M : MS} {k : Nat} {i y : Int} {p : P4} {r : DevV} {G : Nat} {w : World} (h : AtDev W g n f o b M k i y p r G w) (a : Addr) (v : Value) (ha : G < a.block) : AtDev W g n f o b M k i y p r G (w.setCell a v) := by
  have h2 := h.hg
  have h3 := h.bl.size
  exact ⟨h.memW, h.bl.setCell (by omega) v, h.b0.far _ _ (by omega), h.b1.far _ _ (by omega), h.b2.far _ _ (by omega), h.b3.far _ _ (by omega), h.bd.far _ _ (by omega), h2, by have := h.lt; simpa [World.setCell] using this⟩
theorem BoxV.apart {w : World} {N : Nat} {vs : Array Value} (h : BoxV w N vs) (b : Nat) (cs : List Value) (hne : b ≠ N) : BoxV (w.setCells b 0 cs) N vs :=
  ⟨fun j v hv => by rw [World.cell?_setCells_out b cs 0 w ⟨N, j, none⟩ (fun e _ => absurd e.symm hne)]; exact h.1 j v hv, fun o => by rw [World.frozen?_setCells]; exact h.2 o⟩
end Go.Proofs.Ythaiffjalgionaa

/- Facts of a mind; slices of them; what is asked of them. -/
set_option linter.unusedVariables false
set_option linter.unusedSimpArgs false
namespace Go.Proofs.Ythaiffjalgionaa
open Go.RowKit

structure FactV where
  d : Int
  p : P4
  n : Int
def FactV.cells (x : FactV) : List Value := [.int .i64 x.d, .int .i64 x.p.src, .int .i64 x.p.dst, .int .i64 x.p.sport, .int .i64 x.p.dport, .int .i64 x.n]
theorem FactV.len (x : FactV) : x.cells.length = 6 := rfl
theorem FactV.one (x : FactV) : ∀ u ∈ x.cells, u.oneCell' = true := by
  intro u hu
  simp only [FactV.cells, List.mem_cons, List.not_mem_nil, or_false] at hu
  rcases hu with rfl | rfl | rfl | rfl | rfl | rfl <;> rfl
def FactV.val (x : FactV) : Value := .agg #[.int .i64 x.d, .int .i64 x.p.src, .int .i64 x.p.dst, .int .i64 x.p.sport, .int .i64 x.p.dport, .int .i64 x.n]
def eq4 (p q : P4) : Bool := p.src == q.src && p.dst == q.dst && p.sport == q.sport && p.dport == q.dport
def eqF (x y : FactV) : Bool := x.d == y.d && eq4 x.p y.p && x.n == y.n
theorem eq4_iff (p q : P4) : eq4 p q = true ↔ p = q := by
  obtain ⟨a, b, c, d⟩ := p
  obtain ⟨a', b', c', d'⟩ := q
  simp [eq4, and_assoc]
theorem eqF_iff (x y : FactV) : eqF x y = true ↔ x = y := by
  obtain ⟨a, p, c⟩ := x
  obtain ⟨a', p', c'⟩ := y
  simp [eqF, eq4_iff, and_assoc]
/-- The first number that parts two packets. -/
theorem peq (p q : P4) : ((p.src == q.src) = false ∧ eq4 p q = false) ∨ ((p.src == q.src) = true ∧ (p.dst == q.dst) = false ∧ eq4 p q = false) ∨ ((p.src == q.src) = true ∧ (p.dst == q.dst) = true ∧ (p.sport == q.sport) = false ∧ eq4 p q = false) ∨
    ((p.src == q.src) = true ∧ (p.dst == q.dst) = true ∧ (p.sport == q.sport) = true ∧ (p.dport == q.dport) = false ∧ eq4 p q = false) ∨ ((p.src == q.src) = true ∧ (p.dst == q.dst) = true ∧ (p.sport == q.sport) = true ∧ (p.dport == q.dport) = true ∧ eq4 p q = true) := by
  unfold eq4
  cases p.src == q.src <;> cases p.dst == q.dst <;> cases p.sport == q.sport <;> cases p.dport == q.dport <;> simp
theorem fact_get {w : World} {B b o n k : Nat} {l : List FactV} {x : FactV} (h : SlAt FactV.cells 6 w B (some ⟨b, o, none⟩) n l) (hx : l[k]? = some x) : w.cell? ⟨b, o + k * 6, none⟩ = some (.int .i64 x.d) ∧ w.cell? ⟨b, o + k * 6 + 1, none⟩ = some (.int .i64 x.p.src) ∧ w.cell? ⟨b, o + k * 6 + 2, none⟩ = some (.int .i64 x.p.dst) ∧ w.cell? ⟨b, o + k * 6 + 3, none⟩ = some (.int .i64 x.p.sport) ∧ w.cell? ⟨b, o + k * 6 + 4, none⟩ = some (.int .i64 x.p.dport) ∧ w.cell? ⟨b, o + k * 6 + 5, none⟩ = some (.int .i64 x.n) := by
  obtain ⟨_, hg⟩ := h.get hx
  exact ⟨hg 0 _ rfl, hg 1 _ rfl, hg 2 _ rfl, hg 3 _ rfl, hg 4 _ rfl, hg 5 _ rfl⟩

set_option maxRecDepth 100000 in
set_option maxHeartbeats 4000000 in
theorem indexFuncFact_walk (l : List FactV) (b o n c f : Nat) (cap : Array Value) (p : FactV → Bool) (W : World) (hn : n ≤ 9223372036854775807) (hl : SlAt FactV.cells 6 W W.heap.size (some ⟨b, o, none⟩) n l) (h0 : 0 < n)
    (hcall : ∀ (args : Array Value) (w : World), (callFunc f args).run Try.prog w = .ok (.enter f args) w)
    (hf : Hid (∀ (r : FactV) (w : World), r ∈ l → Below W.heap.size W w → Calls Try.prog f (#[r.val] ++ cap) w fun e w' => e = .returned (.bool (p r)) ∧ Below w.heap.size w w')) :
    Calls Try.prog 142 #[.slice (some ⟨b, o, none⟩) n c, .func (.func f) #[] cap] W fun e W' =>
      e = .returned (.int .i64 (idxF p l)) ∧ Below W.heap.size W W' := by
  have HL := hide hl
  clear hl
  go_enter Try.func142, Try.ntmps142
  go_wp2
  go_loopw [5, 8] (fun u i wr => ∃ k : Nat, k ≤ n ∧ i = .int .i64 k ∧ Below W.heap.size W wr ∧ Hid (∀ j r, j < k → l[j]? = some r → p r = false)) (fun _ i _ => n - (intOf i).toNat)
  case atStart => exact ⟨0, Nat.zero_le _, rfl, Below.refl _ _, hide (fun j r h => by omega)⟩
  case round =>
    obtain ⟨k, hk, rfl, hb, HN⟩ := hrel
    have HB := hide hb
    by_cases hlt : k < n
    · obtain ⟨r, hr⟩ : ∃ r, l[k]? = some r := ⟨_, List.getElem?_eq_getElem (by have := HL.out.1; omega)⟩
      obtain ⟨q0, q1, q2, q3, q4, q5⟩ := fact_get (HL.out.below HB.out HB.out.size) hr
      have HR := hide hr
      clear hr hb
      go_wp2_with fail
      refine (hf.out _ _ (List.mem_of_getElem? HR.out) HB.out).mono ?_
      rintro e w1 ⟨rfl, hb1⟩
      have HB1 := hide (HB.out.trans (hb1.mono HB.out.size))
      clear hb1 q0 q1 q2 q3 q4 q5
      cases hp : p r
      · go_wp2
        go_roundw
        case rel =>
          refine ⟨k + 1, by omega, by go_num, HB1.out, hide (fun j r' hj hr' => ?_)⟩
          rcases (by omega : j < k ∨ j = k) with h | rfl
          · exact HN.out j r' h hr'
          · rw [HR.out] at hr'; cases hr'; exact hp
        case measure => simp [intOf]; omega
      · go_wp2
        go_ret
        exact ⟨ret_i64 (idxF_found HR.out hp HN.out).symm, HB1.out⟩
    · go_wp2
      go_ret
      exact ⟨ret_i64 (idxF_none (fun j r hj => HN.out j r (by have := HL.out.1; omega))).symm, hb⟩
set_option maxRecDepth 100000 in
theorem indexFuncFact_nil (A : Option Addr) (c : Nat) (F : Value) (W : World) :
    Calls Try.prog 142 #[.slice A 0 c, F] W fun e W' => e = .returned (.int .i64 (-1)) ∧ W = W' := by
  go_enter Try.func142, Try.ntmps142
  go_wp2
  refine wp_loop_rounds 1 ?_
  rw [rounds_succ]
  go_wp2
  go_ret
  exact ⟨rfl, rfl⟩
theorem indexFuncFact_any (l : List FactV) (A : Option Addr) (n c f : Nat) (cap : Array Value) (p : FactV → Bool) (W : World) (hn : n ≤ 9223372036854775807) (hl : SlAt FactV.cells 6 W W.heap.size A n l)
    (hcall : ∀ (args : Array Value) (w : World), (callFunc f args).run Try.prog w = .ok (.enter f args) w)
    (hf : Hid (∀ (r : FactV) (w : World), r ∈ l → Below W.heap.size W w → Calls Try.prog f (#[r.val] ++ cap) w fun e w' => e = .returned (.bool (p r)) ∧ Below w.heap.size w w')) :
    Calls Try.prog 142 #[.slice A n c, .func (.func f) #[] cap] W fun e W' =>
      e = .returned (.int .i64 (idxF p l)) ∧ Below W.heap.size W W' := by
  rcases Nat.eq_zero_or_pos n with rfl | h0
  · have : l = [] := List.eq_nil_of_length_eq_zero hl.1
    subst this
    exact (indexFuncFact_nil A c _ W).mono fun e w' ⟨he, hw⟩ => ⟨he, hw ▸ Below.refl _ _⟩
  · obtain ⟨b, o, rfl, hb, _⟩ := hl.2 h0
    exact indexFuncFact_walk l b o n c f cap p W hn hl h0 hcall hf
/-! ### is a fact known? -/
set_option maxRecDepth 100000 in
set_option maxHeartbeats 8000000 in
theorem indexFact_walk (l : List FactV) (b o n c : Nat) (x : FactV) (W : World) (hn : n ≤ 9223372036854775807) (hl : SlAt FactV.cells 6 W W.heap.size (some ⟨b, o, none⟩) n l) (h0 : 0 < n) :
    Calls Try.prog 143 #[.slice (some ⟨b, o, none⟩) n c, .agg #[.int .i64 x.d, .int .i64 x.p.src, .int .i64 x.p.dst, .int .i64 x.p.sport, .int .i64 x.p.dport, .int .i64 x.n]] W fun e W' => e = .returned (.int .i64 (idxF (fun z => eqF x z) l)) ∧ Below W.heap.size W W' := by
  have HL := hide hl
  clear hl
  have hb0 : Below W.heap.size W (W.alloc (.cells #[.int .i64 x.d, .int .i64 x.p.src, .int .i64 x.p.dst, .int .i64 x.p.sport, .int .i64 x.p.dport, .int .i64 x.n] 141)) := (Below.refl _ _).alloc (Nat.le_refl _) _
  have HX0 := hide (BoxV.new W #[.int .i64 x.d, .int .i64 x.p.src, .int .i64 x.p.dst, .int .i64 x.p.sport, .int .i64 x.p.dport, .int .i64 x.n] 141)
  have hs0 : (W.alloc (.cells #[.int .i64 x.d, .int .i64 x.p.src, .int .i64 x.p.dst, .int .i64 x.p.sport, .int .i64 x.p.dport, .int .i64 x.n] 141)).heap.size = W.heap.size + 1 := by simp
  go_enter Try.func143, Try.ntmps143
  go_wp2
  generalize W.alloc _ = W0 at *
  have HB0 := hide hb0
  clear hb0
  go_loopw [8] (fun i wr => ∃ k : Nat, k ≤ n ∧ i = .int .i64 k ∧ Hid (Below W0.heap.size W0 wr) ∧ Hid (∀ j z, j < k → l[j]? = some z → eqF x z = false)) (fun i _ => n - (intOf i).toNat)
  case atStart => exact ⟨0, Nat.zero_le _, rfl, hide (Below.refl _ _), hide (fun j r h => absurd h (by omega))⟩
  case round =>
    obtain ⟨k, hk, rfl, HB, HN⟩ := hrel
    have HBW := hide (HB0.out.trans (HB.out.mono HB0.out.size))
    by_cases hlt : k < n
    · obtain ⟨z, hz⟩ : ∃ r, l[k]? = some r := ⟨_, List.getElem?_eq_getElem (by have := HL.out.1; omega)⟩
      obtain ⟨q0, q1, q2, q3, q4, q5⟩ := fact_get (HL.out.below HBW.out HBW.out.size) hz
      have hx := HX0.out.below HB.out (by omega)
      obtain ⟨x0, x1, x2, x3, x4, x5⟩ : wr.cell? ⟨W.heap.size, 0, none⟩ = some (.int .i64 x.d) ∧ wr.cell? ⟨W.heap.size, 1, none⟩ = some (.int .i64 x.p.src) ∧ wr.cell? ⟨W.heap.size, 2, none⟩ = some (.int .i64 x.p.dst) ∧ wr.cell? ⟨W.heap.size, 3, none⟩ = some (.int .i64 x.p.sport) ∧ wr.cell? ⟨W.heap.size, 4, none⟩ = some (.int .i64 x.p.dport) ∧ wr.cell? ⟨W.heap.size, 5, none⟩ = some (.int .i64 x.n) := ⟨hx.1 0 _ rfl, hx.1 1 _ rfl, hx.1 2 _ rfl, hx.1 3 _ rfl, hx.1 4 _ rfl, hx.1 5 _ rfl⟩
      have HZ := hide hz
      clear hz hx
      cases e0 : (x.d == z.d)
      · go_wp2
        go_quiet (fail)
        go_wp2
        go_roundw
        case rel => exact ⟨k + 1, by omega, by go_num, hide (HB.out.trans (below_drew _ _ _)), hide (fun j r hj hr => by
          rcases (by omega : j < k ∨ j = k) with h | rfl
          · exact HN.out j r h hr
          · have e := HZ.out; rw [e] at hr; cases hr; simp only [eqF, e0, Bool.false_and, Bool.and_false])⟩
        case measure => simp [intOf]; omega
      rcases peq x.p z.p with ⟨e1, ep⟩ | ⟨e1, e2, ep⟩ | ⟨e1, e2, e3, ep⟩ | ⟨e1, e2, e3, e4, ep⟩ | ⟨e1, e2, e3, e4, ep⟩
      · go_wp2
        go_quiet (fail)
        go_wp2
        go_roundw
        case rel => exact ⟨k + 1, by omega, by go_num, hide (HB.out.trans (below_drew _ _ _)), hide (fun j r hj hr => by
          rcases (by omega : j < k ∨ j = k) with h | rfl
          · exact HN.out j r h hr
          · have e := HZ.out; rw [e] at hr; cases hr; simp only [eqF, ep, Bool.false_and, Bool.and_false])⟩
        case measure => simp [intOf]; omega
      · go_wp2
        go_quiet (fail)
        go_wp2
        go_roundw
        case rel => exact ⟨k + 1, by omega, by go_num, hide (HB.out.trans (below_drew _ _ _)), hide (fun j r hj hr => by
          rcases (by omega : j < k ∨ j = k) with h | rfl
          · exact HN.out j r h hr
          · have e := HZ.out; rw [e] at hr; cases hr; simp only [eqF, ep, Bool.false_and, Bool.and_false])⟩
        case measure => simp [intOf]; omega
      · go_wp2
        go_quiet (fail)
        go_wp2
        go_roundw
        case rel => exact ⟨k + 1, by omega, by go_num, hide (HB.out.trans (below_drew _ _ _)), hide (fun j r hj hr => by
          rcases (by omega : j < k ∨ j = k) with h | rfl
          · exact HN.out j r h hr
          · have e := HZ.out; rw [e] at hr; cases hr; simp only [eqF, ep, Bool.false_and, Bool.and_false])⟩
        case measure => simp [intOf]; omega
      · go_wp2
        go_quiet (fail)
        go_wp2
        go_roundw
        case rel => exact ⟨k + 1, by omega, by go_num, hide (HB.out.trans (below_drew _ _ _)), hide (fun j r hj hr => by
          rcases (by omega : j < k ∨ j = k) with h | rfl
          · exact HN.out j r h hr
          · have e := HZ.out; rw [e] at hr; cases hr; simp only [eqF, ep, Bool.false_and, Bool.and_false])⟩
        case measure => simp [intOf]; omega
      cases e5 : (x.n == z.n)
      · go_wp2
        go_quiet (fail)
        go_wp2
        go_roundw
        case rel => exact ⟨k + 1, by omega, by go_num, hide (HB.out.trans (below_drew _ _ _)), hide (fun j r hj hr => by
          rcases (by omega : j < k ∨ j = k) with h | rfl
          · exact HN.out j r h hr
          · have e := HZ.out; rw [e] at hr; cases hr; simp only [eqF, e5, Bool.false_and, Bool.and_false])⟩
        case measure => simp [intOf]; omega
      · have HF := hide (idxF_found (p := fun z => eqF x z) HZ.out (by simp only [eqF, e0, ep, e5]; rfl) HN.out)
        go_wp2
        go_quiet (fail)
        go_wp2
        go_ret
        exact ⟨ret_i64 HF.out.symm, HBW.out.trans (below_drew _ _ _)⟩
    · have HF := hide (idxF_none (p := fun z => eqF x z) (l := l) (fun j r hj hr => HN.out j r (by have := HL.out.1; omega) hr))
      go_wp2
      go_ret
      exact ⟨ret_i64 HF.out.symm, HBW.out⟩
set_option maxRecDepth 100000 in
theorem indexFact_nil (A : Option Addr) (c : Nat) (x : FactV) (W : World) : Calls Try.prog 143 #[.slice A 0 c, .agg #[.int .i64 x.d, .int .i64 x.p.src, .int .i64 x.p.dst, .int .i64 x.p.sport, .int .i64 x.p.dport, .int .i64 x.n]] W fun e W' => e = .returned (.int .i64 (-1)) ∧ Below W.heap.size W W' := by
  go_enter Try.func143, Try.ntmps143
  go_wp2
  refine wp_loop_rounds 1 ?_
  rw [rounds_succ]
  go_wp2
  go_ret
  exact ⟨rfl, (Below.refl _ _).alloc (Nat.le_refl _) _⟩
theorem indexFact_any (l : List FactV) (A : Option Addr) (n c : Nat) (x : FactV) (W : World) (hn : n ≤ 9223372036854775807) (hl : SlAt FactV.cells 6 W W.heap.size A n l) :
    Calls Try.prog 143 #[.slice A n c, .agg #[.int .i64 x.d, .int .i64 x.p.src, .int .i64 x.p.dst, .int .i64 x.p.sport, .int .i64 x.p.dport, .int .i64 x.n]] W fun e W' => e = .returned (.int .i64 (idxF (fun z => eqF x z) l)) ∧ Below W.heap.size W W' := by
  rcases Nat.eq_zero_or_pos n with rfl | h0
  · have : l = [] := List.eq_nil_of_length_eq_zero hl.1
    subst this
    exact indexFact_nil A c x W
  · obtain ⟨b, o, rfl, hb, _⟩ := hl.2 h0
    exact indexFact_walk l b o n c x W hn hl h0
set_option maxRecDepth 100000 in
theorem containsFact_any (l : List FactV) (A : Option Addr) (n c : Nat) (x : FactV) (W : World) (hn : n ≤ 9223372036854775807) (hl : SlAt FactV.cells 6 W W.heap.size A n l) :
    Calls Try.prog 76 #[.slice A n c, .agg #[.int .i64 x.d, .int .i64 x.p.src, .int .i64 x.p.dst, .int .i64 x.p.sport, .int .i64 x.p.dport, .int .i64 x.n]] W fun e W' => e = .returned (.bool (l.any fun z => eqF x z)) ∧ Below W.heap.size W W' := by
  have hb0 : Below W.heap.size W (W.alloc (.cells #[.int .i64 x.d, .int .i64 x.p.src, .int .i64 x.p.dst, .int .i64 x.p.sport, .int .i64 x.p.dport, .int .i64 x.n] 141)) := (Below.refl _ _).alloc (Nat.le_refl _) _
  have HC := hide (indexFact_any l A n c x (W.alloc (.cells #[.int .i64 x.d, .int .i64 x.p.src, .int .i64 x.p.dst, .int .i64 x.p.sport, .int .i64 x.p.dport, .int .i64 x.n] 141)) hn (hl.below hb0 hb0.size))
  have HB0 := hide hb0
  clear hl hb0
  rcases idxF_any (fun z => eqF x z) l with ⟨h1, k, h2⟩ | ⟨h1, h2⟩
  all_goals
    rw [h2] at HC
    rw [h1]
    clear h1 h2
    go_enter Try.func76, Try.ntmps76
    go_wp2_with fail
    refine HC.out.mono ?_
    rintro e w1 ⟨rfl, hb⟩
    have HB := hide (HB0.out.trans (hb.mono HB0.out.size))
    clear hb
    go_wp2
    go_ret
    exact ⟨rfl, HB.out⟩
end Go.Proofs.Ythaiffjalgionaa

/- A drawn region of loads, calls, and stores into what is loaded: the loads may be taken first, for the stores wait for them. -/
set_option linter.unusedVariables false
set_option linter.unusedSimpArgs false
namespace Go.Proofs.Ythaiffjalgionaa

structure ClosedL (md : Region.Mode) (ops : Array Oper) (listed : Array Bool) : Prop where
  size : listed.size = ops.size
  closed : ∀ j oj, ops[j]? = some oj → listed.getD j false = true → ∀ e ∈ oj.after, Region.binds md e = true → listed.getD e.on false = true

def chainOk (md : Region.Mode) (ops : Array Oper) : List Nat → Bool
  | i :: j :: r => Region.waitsFor md ops j i && chainOk md ops (j :: r)
  | _ => true

section
variable {P : Program} {ops : Array Oper} {Q : Exit → Act → World → Prop} {md : Region.Mode} {S : World → Prop} {s : Nat}

theorem ClosedL.set {i : Nat} {listed : Array Bool} (inv : ClosedL md ops listed) (hi : i ∈ Region.ready md ops listed) : ClosedL md ops (listed.setIfInBounds i true) := by
  obtain ⟨_, oi, hoi, hall⟩ := mem_ready.1 hi
  refine ⟨by simp [inv.size], fun j oj hj hl e he hb => ?_⟩
  by_cases hij : i = j
  · subst hij
    have : oj = oi := Option.some.inj (hj.symm.trans hoi)
    subst this
    exact getD_set_true (hall e he hb)
  · rw [getD_set_ne false hij] at hl
    exact getD_set_true (inv.closed j oj hj hl e he hb)

theorem chain_back {listed : Array Bool} (inv : ClosedL md ops listed) : ∀ (c : List Nat) (i s : Nat), chainOk md ops (i :: c) = true → (i :: c).getLast? = some s → listed.getD s false = true → listed.getD i false = true
  | [], i, s, _, hl, h => by simp at hl; rw [hl]; exact h
  | j :: r, i, s, hc, hl, h => by
    simp only [chainOk, Bool.and_eq_true] at hc
    have h1 := chain_back inv r j s hc.2 (by simpa using hl) h
    obtain ⟨oj, hoj, e, he, hb, hon⟩ := Region.waitsFor_spec hc.1
    have := inv.closed j oj hoj h1 e he hb
    rwa [hon] at this

theorem chain_unlisted {listed : Array Bool} (inv : ClosedL md ops listed) {c : List Nat} {i : Nat} (hc : chainOk md ops (i :: c) = true) (hl : (i :: c).getLast? = some s) (hs : s < ops.size) (hi : listed.getD i true = false) : listed.getD s true = false := by
  cases h : listed.getD s false with
  | true => have := chain_back inv c i s hc hl h; rw [getD_both hi] at this; cases this
  | false => exact getD_in (by rw [inv.size]; exact hs) h

/-- Whatever order is picked from here on, and S holds behind every operation that is carried out, as long as s is not. -/
def wpAnyE (P : Program) (md : Region.Mode) (ops : Array Oper) (Q : Exit → Act → World → Prop) (S : World → Prop) (s : Nat) : Nat → Array Bool → Act → World → Prop
  | 0, listed, a, w => Region.ready md ops listed = [] ∧ Q .normal a w
  | fuel + 1, listed, a, w =>
    (Region.ready md ops listed = [] → Q .normal a w) ∧
    ∀ i ∈ Region.ready md ops listed, wpOp P ops Q i (fun a' w' => ((listed.setIfInBounds i true).getD s true = false → S w') ∧ wpAnyE P md ops Q S s fuel (listed.setIfInBounds i true) a' w') a w

theorem wpAny_of_E : ∀ (fuel : Nat) (listed : Array Bool) (a : Act) (w : World), wpAnyE P md ops Q S s fuel listed a w → wpAny P md ops Q fuel listed a w
  | 0, _, _, _, h => h
  | fuel + 1, _, _, _, h => ⟨h.1, fun i hi => wpOp_mono (fun a' w' h' => wpAny_of_E fuel _ a' w' h'.2) (h.2 i hi)⟩

theorem wpAnyE_first {i : Nat} {oi : Oper} {v : Value} {S' : World → Prop} (hi : ops[i]? = some oi) (hsel : ∀ (j : Nat) (o : Oper) cs b, ops[j]? = some o → o.op ≠ .select cs b) (his : i ≠ s)
    (hS' : ∀ (listed : Array Bool) (w : World), ClosedL md ops listed → listed.getD i true = false → (listed.getD s true = false → S w) → S' w)
    (hQ : ∀ c a w, Q (.panic c) (a.put oi.dst v) w → Q (.panic c) a w) :
    ∀ (fuel : Nat) (listed : Array Bool) (a : Act) (w : World), ClosedL md ops listed →
      (∀ j oj, ops[j]? = some oj → j ≠ i → listed.getD j true = false → (∀ e ∈ oj.after, Region.binds md e = true → e.on ≠ i) → oi.apart ops oj = true) →
      i ∈ Region.ready md ops listed → YieldsIf P ops S' oi v a → (listed.getD s true = false → S w) →
      wpAnyE P md ops Q S s fuel (listed.setIfInBounds i true) (a.put oi.dst v) w → wpAnyE P md ops Q S s (fuel + 1) listed a w := by
  have same : ∀ (l : Array Bool), (l.setIfInBounds i true).getD s true = l.getD s true := fun l => getD_set_ne true his
  intro fuel
  induction fuel with
  | zero =>
    intro listed a w inv _ hr hy hS H
    have hun := (mem_ready.1 hr).1
    refine ⟨fun h => (by rw [h] at hr; cases hr), fun j hj => ?_⟩
    by_cases hji : j = i
    · subst hji; exact hy.wpOp hi (hS' listed w inv hun hS) ⟨fun h => hS (by rwa [same] at h), H⟩
    · have := ready_mono hj hji
      rw [H.1] at this
      cases this
  | succ fuel ih =>
    intro listed a w inv hfree hr hy hS H
    have hun := (mem_ready.1 hr).1
    refine ⟨fun h => (by rw [h] at hr; cases hr), fun j hj => ?_⟩
    by_cases hji : j = i
    · subst hji; exact hy.wpOp hi (hS' listed w inv hun hS) ⟨fun h => hS (by rwa [same] at h), H⟩
    · have h1 := H.2 j (ready_mono hj hji)
      obtain ⟨hjun, oj, hoj, hall⟩ := mem_ready.1 hj
      have hnot : ∀ e ∈ oj.after, Region.binds md e = true → e.on ≠ i := fun e he hb heq => by
        have h1 := hall e he hb
        rw [heq, getD_both hun] at h1
        cases h1
      have h2 := wpOp_putIf hoj (hfree j oj hoj hji hjun hnot) (fun cs b => hsel i oi cs b hi) (fun cs b => hsel j oj cs b hoj) hQ hy h1
      have hfree' : ∀ k ok, ops[k]? = some ok → k ≠ i → (listed.setIfInBounds j true).getD k true = false →
          (∀ e ∈ ok.after, Region.binds md e = true → e.on ≠ i) → oi.apart ops ok = true := fun k ok hk hki hun hno => by
        refine hfree k ok hk hki ?_ hno
        by_cases hjk : j = k
        · subst hjk; exact hjun
        · rw [getD_set_ne true hjk] at hun; exact hun
      refine wpOp_mono (fun a' w' h3 => ?_) h2
      have hS2 : (listed.setIfInBounds j true).getD s true = false → S w' := fun h => h3.2.1 (by rw [Array.setIfInBounds_comm _ _ (Ne.symm hji), same]; exact h)
      refine ⟨hS2, ih (listed.setIfInBounds j true) a' w' (inv.set hj) hfree' (ready_mono hr (Ne.symm hji)) h3.1 hS2 ?_⟩
      rw [Array.setIfInBounds_comm _ _ hji]
      exact h3.2.2

/-- Take a load first: s waits for it by a chain. -/
theorem wpAnyE_load {i : Nat} {oi : Oper} {v : Value} {fuel : Nat} {listed : Array Bool} {a : Act} {w : World} (c : List Nat) (hi0 : ops.toList[i]? = some oi) (hs : Region.noSelect ops = true) (hf : Region.free md ops listed i = true)
    (hr : (Region.ready md ops listed).contains i = true) (his : decide (i ≠ s) && decide (s < ops.size) && chainOk md ops (i :: c) && decide ((i :: c).getLast? = some s) = true) (hQ : ∀ c a w, Q (.panic c) (a.put oi.dst v) w → Q (.panic c) a w) (inv : Shut (ClosedL md ops listed)) (hy : YieldsIf P ops S oi v a) (hS : S w)
    (h : Shut (ClosedL md ops (listed.setIfInBounds i true)) → wpAnyE P md ops Q S s fuel (listed.setIfInBounds i true) (a.put oi.dst v) w) : wpAnyE P md ops Q S s (fuel + 1) listed a w := by
  have hi : ops[i]? = some oi := by simpa using hi0
  simp only [Bool.and_eq_true, decide_eq_true_eq] at his
  have hr' : i ∈ Region.ready md ops listed := by simpa using hr
  exact wpAnyE_first hi (Region.noSelect_spec hs) his.1.1.1 (fun l w inv hun hS => hS (chain_unlisted inv his.1.2 his.2 his.1.1.2 hun)) hQ fuel listed a w inv.out (Region.free_spec hi hf) hr' hy (fun _ => hS) (h (inv.out.set hr'))

/-- Take first what yields in whatever world. -/
theorem wpAnyE_pure {i : Nat} {oi : Oper} {v : Value} {fuel : Nat} {listed : Array Bool} {a : Act} {w : World} (hi0 : ops.toList[i]? = some oi) (hs : Region.noSelect ops = true) (hf : Region.free md ops listed i = true)
    (hr : (Region.ready md ops listed).contains i = true) (his : decide (i ≠ s) = true) (hQ : ∀ c a w, Q (.panic c) (a.put oi.dst v) w → Q (.panic c) a w) (inv : Shut (ClosedL md ops listed)) (hy : YieldsIf P ops (fun _ => True) oi v a) (hS : listed.getD s true = false → S w)
    (h : Shut (ClosedL md ops (listed.setIfInBounds i true)) → wpAnyE P md ops Q S s fuel (listed.setIfInBounds i true) (a.put oi.dst v) w) : wpAnyE P md ops Q S s (fuel + 1) listed a w := by
  have hi : ops[i]? = some oi := by simpa using hi0
  have hr' : i ∈ Region.ready md ops listed := by simpa using hr
  exact wpAnyE_first hi (Region.noSelect_spec hs) (by simpa using his) (fun _ _ _ _ _ => trivial) hQ fuel listed a w inv.out (Region.free_spec hi hf) hr' hy hS (h (inv.out.set hr'))

/-- The one that may come up comes up. -/
theorem wpAnyE_one {i : Nat} {o : Oper} {fuel : Nat} {listed : Array Bool} {a : Act} {w : World} (ho0 : ops.toList[i]? = some o) (hr : Region.ready md ops listed = [i]) (inv : Shut (ClosedL md ops listed))
    (h : ∀ K' : Act → World → Prop, Shut (∀ a w, ((listed.setIfInBounds i true).getD s true = false → S w) → (Shut (ClosedL md ops (listed.setIfInBounds i true)) → wpAnyE P md ops Q S s fuel (listed.setIfInBounds i true) a w) → K' a w) → if Region.wanted o (yielded ops a.tmps) = true then Oper.wp P o a w K' Q else K' (a.put o.dst undef) w) :
    wpAnyE P md ops Q S s (fuel + 1) listed a w := by
  have ho : ops[i]? = some o := by simpa using ho0
  have hi : i ∈ Region.ready md ops listed := by rw [hr]; simp
  refine ⟨fun h0 => (by rw [h0] at hr; cases hr), fun j hj => ?_⟩
  rw [hr] at hj
  have : j = i := by simpa using hj
  subst this
  exact wpOp_step ho (fun K hK => h K (fun a w hS hW => hK a w ⟨hS, hW (inv.out.set hi)⟩))

/-- The same, where s has come up, or comes up now. -/
theorem wpAnyE_late {i : Nat} {o : Oper} {fuel : Nat} {listed : Array Bool} {a : Act} {w : World} (ho0 : ops.toList[i]? = some o) (hr : Region.ready md ops listed = [i]) (inv : Shut (ClosedL md ops listed)) (hx : (listed.setIfInBounds i true).getD s true = true)
    (h : ∀ K' : Act → World → Prop, Shut (∀ a w, (Shut (ClosedL md ops (listed.setIfInBounds i true)) → wpAnyE P md ops Q S s fuel (listed.setIfInBounds i true) a w) → K' a w) → if Region.wanted o (yielded ops a.tmps) = true then Oper.wp P o a w K' Q else K' (a.put o.dst undef) w) :
    wpAnyE P md ops Q S s (fuel + 1) listed a w := by
  have ho : ops[i]? = some o := by simpa using ho0
  have hi : i ∈ Region.ready md ops listed := by rw [hr]; simp
  refine ⟨fun h0 => (by rw [h0] at hr; cases hr), fun j hj => ?_⟩
  rw [hr] at hj
  have : j = i := by simpa using hj
  subst this
  exact wpOp_step ho (fun K hK => h K (fun a w hW => hK a w ⟨fun h => (by rw [hx] at h; cases h), hW (inv.out.set hi)⟩))

theorem wpAnyE_done {listed : Array Bool} {a : Act} {w : World} (hr : Region.ready md ops listed = []) (h : Q .normal a w) : ∀ fuel, wpAnyE P md ops Q S s fuel listed a w
  | 0 => ⟨hr, h⟩
  | _ + 1 => ⟨fun _ => h, by rw [hr]; simp⟩

theorem wp_region_E {id : Nat} {a : Act} {w : World} (S : World → Prop) (s : Nat) (hm : P.follows .mixedOrders = true) (hS : S w.drew)
    (h : S w.drew → Shut (ClosedL .any ops (Array.replicate ops.size false)) → wpAnyE P .any ops Q S s ops.size (Array.replicate ops.size false) a w.drew) : (Code.region id ops true).wp P Q a w :=
  wp_region_any hm (wpAny_of_E _ _ _ _ (h hS (show ClosedL .any ops (Array.replicate ops.size false) from ⟨by simp, fun j oj _ hl => (by rw [getD_replicate_false] at hl; cases hl)⟩)))
end
end Go.Proofs.Ythaiffjalgionaa
