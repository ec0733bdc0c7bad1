/- What package step does, plainly. -/
import Derived.Test.YtidikopjfpioaaaStepKnow
import Derived.Test.YtidikopjfpioaaaStepSmall
set_option linter.unusedVariables false
set_option linter.unusedSimpArgs false
namespace Go.Proofs.Ytidikopjfpioaaa
open Go.RowKit Go.Maps

/-- What goes out: the port, the packet, what is known then. -/
structure GoneS where
  port : Int
  q : P4
  kn : Know
def GoneS.zero : GoneS := ⟨0, ⟨0, 0, 0, 0⟩, .nothing⟩

def fireF (r : Dev) (M : MS) (i y : Int) (p : P4) : GoneS × Bool :=
  if y = 0 then (⟨1, p, .flow (i, p)⟩, letsB r.rules p) else (⟨0, p, .nothing⟩, M.F (i, flipP p))
/-- The port from k on (of so many that are left) that an owner has; -1: none. -/
def mineG (M : MS) (i : Int) (o : Int × Int) : Nat → Nat → Int
  | 0, _ => -1
  | m + 1, k => if M.O (i, (k : Int)) = some o then (k : Int) else mineG M i o m (k + 1)
def mineF (M : MS) (i : Int) (o : Int × Int) : Int := mineG M i o 8 0
def hasBit (pool : Nat) (c : Int) : Bool := pool.testBit c.toNat
def natF (r : Dev) (M : MS) (i y : Int) (p : P4) (ch : Int) : GoneS × Bool × Int :=
  if y = 1 then
    if p.dst ≠ r.addr then (.zero, false, 0)
    else match M.O (i, p.dport) with
      | some o => (⟨0, ⟨p.src, o.1, p.sport, o.2⟩, .nothing⟩, true, 0)
      | none => (.zero, false, 0)
  else if 0 ≤ mineF M i (p.src, p.sport) then
    (⟨1, ⟨r.addr, p.dst, mineF M i (p.src, p.sport), p.dport⟩, .owner (i, mineF M i (p.src, p.sport)) (p.src, p.sport)⟩, true, 0)
  else if ch < 0 ∨ 8 ≤ ch ∨ hasBit r.pool ch = false then (.zero, false, 1)
  else if (M.O (i, ch)).isSome then (.zero, false, 6)
  else (⟨1, ⟨r.addr, p.dst, ch, p.dport⟩, .owner (i, ch) (p.src, p.sport)⟩, true, 0)
def balF (r : Dev) (M : MS) (i y : Int) (p : P4) (ch : Int) : GoneS × Int :=
  if y = 1 then
    (⟨0, if M.B (i, ⟨p.dst, r.addr, p.dport, p.sport⟩) = some p.src then ⟨r.addr, p.dst, p.sport, p.dport⟩ else p, .nothing⟩, 0)
  else if p.dst ≠ r.addr then (⟨1, p, .nothing⟩, 0)
  else match M.B (i, p) with
    | some b => (⟨1, ⟨p.src, b, p.sport, p.dport⟩, .back (i, p) b⟩, 0)
    | none => match (if ch < 0 then none else r.backs[ch.toNat]?) with
      | some b => (⟨1, ⟨p.src, b, p.sport, p.dport⟩, .back (i, p) b⟩, 0)
      | none => (.zero, 1)
def routF (r : Dev) (p : P4) : GoneS × Bool := (⟨(outF p.dst r.routes).1, p, .nothing⟩, decide (0 ≤ (outF p.dst r.routes).2) && letsB r.rules p)
def outS (r : Dev) (M : MS) (i y : Int) (p : P4) (ch : Int) : GoneS × Bool × Int :=
  if r.kind = 2 then ((routF r p).1, (routF r p).2, 0)
  else if r.kind = 3 then ((fireF r M i y p).1, (fireF r M i y p).2, 0)
  else if r.kind = 4 then natF r M i y p ch
  else if r.kind = 5 then ((balF r M i y p ch).1, decide ((balF r M i y p ch).2 = 0), (balF r M i y p ch).2)
  else (.zero, false, 0)

/-- An answer of Handle: the error; where it comes in next; the packet; what is known then. -/
structure HandS where
  e : Int
  to : Pl
  q : P4
  kn : Know
def HandS.bad (e : Int) : HandS := ⟨e, (0, 0), ⟨0, 0, 0, 0⟩, .nothing⟩
def goS (ls : List LinkV) (i : Int) (x : GoneS × Bool × Int) : HandS :=
  if x.2.2 ≠ 0 then .bad x.2.2
  else match peerF ls (i, x.1.port) with
    | none => .bad 7
    | some to => if x.2.1 then ⟨0, to, x.1.q, x.1.kn⟩ else .bad 7
def handS (ds : List Dev) (ls : List LinkV) (M : MS) (i y : Int) (p : P4) (ch : Int) : HandS :=
  if placeB ds (i, y) = false then .bad 4
  else if rightB p = false then .bad 1
  else match ds[i.toNat]? with
    | none => .bad 4
    | some r => goS ls i (outS r M i y p ch)
def HandS.val (h : HandS) : Value := .tuple #[.agg #[.int .i64 h.to.1, .int .i64 h.to.2, .int .i64 h.q.src, .int .i64 h.q.dst, .int .i64 h.q.sport, .int .i64 h.q.dport], .int .i64 h.e]

theorem info_device : (Try.prog.info? 30).map (·.size) = some 7 := by kernel_rfl
theorem info_owner : (Try.prog.info? 167).map (·.size) = some 2 := by kernel_rfl
def DevV.arr (d : DevV) : Array Value := #[.string d.name, .int .i64 d.kind, .int .i64 d.addr, .int .u8 d.pool, .slice d.bA d.bn d.bc, .slice d.rA d.rn d.rc, .slice d.tA d.tn d.tc]

theorem DevV.arr_one (d : DevV) : d.arr.all (·.oneCell') = true := by simp [DevV.arr, Value.oneCell']

/-- What stands where a device's function has its device at hand. -/
structure AtDev (W : World) (g : Nat) (n : NetV) (f o b : Nat) (M : MS) (k : Nat) (i y : Int) (p : P4) (r : DevV) (G : Nat) (w : World) : Prop where
  memW : ∀ w', Below W.heap.size W w' → MemAt w' g n f o b M k
  bl : Below W.heap.size W w
  b0 : BoxV w W.heap.size #[.pointer (some ⟨g, 0, none⟩)]
  b1 : BoxV w (W.heap.size + 1) #[.int .i64 i, .int .i64 y]
  b2 : BoxV w (W.heap.size + 1 + 1) #[.int .i64 p.src, .int .i64 p.dst, .int .i64 p.sport, .int .i64 p.dport]
  b3 : BoxV w (W.heap.size + 1 + 1 + 1) #[.int .i64 0, .int .i64 0, .int .i64 0, .int .i64 0, .int .i64 0, .nilFunc]
  bd : BoxV w G r.arr
  hg : W.heap.size + 1 + 1 + 1 < G
  lt : G < w.heap.size
theorem AtDev.mem {W : World} {g : Nat} {n : NetV} {f o b : Nat} {M : MS} {k : Nat} {i y : Int} {p : P4} {r : DevV} {G : Nat} {w : World} (h : AtDev W g n f o b M k i y p r G w) : MemAt w g n f o b M k := h.memW w h.bl
theorem AtDev.below {W : World} {g : Nat} {n : NetV} {f o b : Nat} {M : MS} {k : Nat} {i y : Int} {p : P4} {r : DevV} {G : Nat} {w w' : World} (h : AtDev W g n f o b M k i y p r G w) (hb : Below w.heap.size w w') : AtDev W g n f o b M k i y p r G w' := by
  have h1 := h.lt
  have h2 := h.hg
  have h3 := h.bl.size
  exact ⟨h.memW, h.bl.trans (hb.mono h3), h.b0.below hb (by omega), h.b1.below hb (by omega), h.b2.below hb (by omega), h.b3.below hb (by omega), h.bd.below hb h1, h2, by have := hb.size; omega⟩

theorem AtDev.alloc {W : World} {g : Nat} {n : NetV} {f o b : Nat} {M : MS} {k : Nat} {i y : Int} {p : P4} {r : DevV} {G : Nat} {w : World} (h : AtDev W g n f o b M k i y p r G w) (x : Obj) : AtDev W g n f o b M k i y p r G (w.alloc x) := h.below ((Below.refl _ _).alloc (Nat.le_refl _) x)
theorem AtDev.far {W : World} {g : Nat} {n : NetV} {f o b : Nat} {M : MS} {k : Nat} {i y : Int} {p : P4} {r : DevV} {G : Nat} {w : World} (h : AtDev W g n f o b M k i y p r G w) (a : Addr) (v : Value) (ha : G < a.block) : AtDev W g n f o b M k i y p r G (w.setCell a v) := by
  have h2 := h.hg
  have h3 := h.bl.size
  exact ⟨h.memW, h.bl.setCell (by omega) v, h.b0.far _ _ (by omega), h.b1.far _ _ (by omega), h.b2.far _ _ (by omega), h.b3.far _ _ (by omega), h.bd.far _ _ (by omega), h2, by have := h.lt; simpa [World.setCell] using this⟩
theorem BoxV.apart {w : World} {N : Nat} {vs : Array Value} (h : BoxV w N vs) (b : Nat) (cs : List Value) (hne : b ≠ N) : BoxV (w.setCells b 0 cs) N vs :=
  ⟨fun j v hv => by rw [World.cell?_setCells_out b cs 0 w ⟨N, j, none⟩ (fun e _ => absurd e.symm hne)]; exact h.1 j v hv, fun o => by rw [World.frozen?_setCells]; exact h.2 o⟩
end Go.Proofs.Ytidikopjfpioaaa
