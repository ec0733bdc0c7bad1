/- A part of the proof: Devs, NetDev, NetBacks, StepClone, KMap. -/
import Derived.Test.YtifkacnoiocebaaNw2
set_option linter.unusedVariables false
set_option linter.unusedSimpArgs false
set_option maxRecDepth 100000
set_option maxHeartbeats 8000000
namespace Go.Proofs.Ytifkacnoiocebaa
open Go.ChangeAt Go.ChangeShapes Go.Deep Go.Joins Go.RowKit Go.WideShapes
structure DevV where
  name : ByteArray
  kind : Int
  addr : Int
  pool : Nat
  bA : Option Addr
  bn : Nat
  bc : Nat
  bs : List Int
  rA : Option Addr
  rn : Nat
  rc : Nat
  rs : List RuleV
  tA : Option Addr
  tn : Nat
  tc : Nat
  ts : List RouteV
structure Dev where
  name : ByteArray
  kind : Int
  addr : Int
  pool : Nat
  backs : List Int
  rules : List RuleV
  routes : List RouteV
def DevV.dev (d : DevV) : Dev := ⟨d.name, d.kind, d.addr, d.pool, d.bs, d.rs, d.ts⟩
def DevV.cells (d : DevV) : List Value := [.string d.name, .int .i64 d.kind, .int .i64 d.addr, .int .u8 d.pool, .slice d.bA d.bn d.bc, .slice d.rA d.rn d.rc, .slice d.tA d.tn d.tc]
def DevV.val (d : DevV) : Value := .agg #[.string d.name, .int .i64 d.kind, .int .i64 d.addr, .int .u8 d.pool, .slice d.bA d.bn d.bc, .slice d.rA d.rn d.rc, .slice d.tA d.tn d.tc]
theorem DevV.len (d : DevV) : d.cells.length = 7 := rfl
theorem DevV.one (d : DevV) : ∀ u ∈ d.cells, u.oneCell' = true := by
  intro u hu
  simp only [DevV.cells, List.mem_cons, List.not_mem_nil, or_false] at hu
  rcases hu with rfl | rfl | rfl | rfl | rfl | rfl | rfl <;> rfl
structure DevAt (w : World) (B : Nat) (d : DevV) : Prop where
  nm : d.name.size ≤ maxLen
  kd : i64ok d.kind
  ad : i64ok d.addr
  pl : d.pool < 256
  bs : IntsAt w B d.bA d.bn d.bs
  rs : RulesAt w B d.rA d.rn d.rs
  ts : SlAt RouteV.cells 3 w B d.tA d.tn d.ts
  tok : ∀ r ∈ d.ts, r.ok
  cb : d.bn ≤ d.bc ∧ d.bc ≤ maxLen
  cr : d.rn ≤ d.rc ∧ d.rc ≤ maxLen
  ct : d.tn ≤ d.tc ∧ d.tc ≤ maxLen
theorem DevAt.below {w w' : World} {B B' : Nat} {d : DevV} (h : DevAt w B d) (hB : RowKit.Below B w w') (hB' : B ≤ B') : DevAt w' B' d :=
  ⟨h.nm, h.kd, h.ad, h.pl, h.bs.below hB hB', h.rs.below hB hB', h.ts.below hB hB', h.tok, h.cb, h.cr, h.ct⟩
structure NetV where
  dA : Option Addr
  dn : Nat
  dc : Nat
  ds : List DevV
  lA : Option Addr
  ln : Nat
  lc : Nat
  ls : List LinkV
def NetV.val (n : NetV) : Value := .agg #[.slice n.dA n.dn n.dc, .slice n.lA n.ln n.lc]
def NetV.devs (n : NetV) : List Dev := n.ds.map DevV.dev
structure NetAt (w : World) (B : Nat) (n : NetV) : Prop where
  ds : SlAt DevV.cells 7 w B n.dA n.dn n.ds
  dok : ∀ d ∈ n.ds, DevAt w B d
  ls : SlAt LinkV.cells 4 w B n.lA n.ln n.ls
  lok : ∀ l ∈ n.ls, l.ok
  cd : n.dn ≤ n.dc ∧ n.dc ≤ maxLen
  cl : n.ln ≤ n.lc ∧ n.lc ≤ maxLen
theorem NetAt.below {w w' : World} {B B' : Nat} {n : NetV} (h : NetAt w B n) (hB : RowKit.Below B w w') (hB' : B ≤ B') : NetAt w' B' n :=
  ⟨h.ds.below hB hB', fun d hd => (h.dok d hd).below hB hB', h.ls.below hB hB', h.lok, h.cd, h.cl⟩
theorem NetAt.dlen {w : World} {B : Nat} {n : NetV} (h : NetAt w B n) : n.ds.length = n.dn := h.ds.1
theorem NetAt.llen {w : World} {B : Nat} {n : NetV} (h : NetAt w B n) : n.ls.length = n.ln := h.ls.1
theorem dev_get {w : World} {B b o n k : Nat} {l : List DevV} {r : DevV} (h : SlAt DevV.cells 7 w B (some ⟨b, o, none⟩) n l) (hr : l[k]? = some r) : b < B ∧
    w.cell? ⟨b, o + k * 7, none⟩ = some (.string r.name) ∧ w.cell? ⟨b, o + k * 7 + 1, none⟩ = some (.int .i64 r.kind) ∧ w.cell? ⟨b, o + k * 7 + 2, none⟩ = some (.int .i64 r.addr) ∧ w.cell? ⟨b, o + k * 7 + 3, none⟩ = some (.int .u8 r.pool) ∧
    w.cell? ⟨b, o + k * 7 + 4, none⟩ = some (.slice r.bA r.bn r.bc) ∧ w.cell? ⟨b, o + k * 7 + 5, none⟩ = some (.slice r.rA r.rn r.rc) ∧ w.cell? ⟨b, o + k * 7 + 6, none⟩ = some (.slice r.tA r.tn r.tc) :=
  ⟨(h.get hr).1, (h.get hr).2 0 _ rfl, (h.get hr).2 1 _ rfl, (h.get hr).2 2 _ rfl, (h.get hr).2 3 _ rfl, (h.get hr).2 4 _ rfl, (h.get hr).2 5 _ rfl, (h.get hr).2 6 _ rfl⟩
section
variable {H : Type} {enc : TypeId × Value → H} {w : World} {base : Nat} {spare : Nat → Bool} {held : Bool} {r : Reach} {b0 : Nat}
theorem read_elems {α : Type} {P : Program} (cells : α → List Value) (ok : α → Prop) (s : Nat) {t e : TypeId} (ht : P.underlying t = some (.slice e)) (hC : P.cellsOf e = s) (hs : 0 < s) (hlen : ∀ r, (cells r).length = s)
    (helem : ∀ (n : Nat) (cs : List Value) (y : DataW H × List MemPlace), DataW.trod enc P w base spare held n e cs = some y → ∃ r, ok r ∧ cs = cells r)
    {fuel : Nat} {cs : List Value} {y : DataW H × List MemPlace} (hf : DataW.trod enc P w base spare held fuel t cs = some y) :
    ∃ (A : Option Addr) (n c : Nat) (l : List α), cs = [.slice A n c] ∧ n ≤ c ∧ c ≤ maxLen ∧ SlAt cells s w w.heap.size A n l ∧ (∀ r ∈ l, ok r) := by
  obtain ⟨d, p⟩ := y
  rcases open_slice ht hf with ⟨hcs, hx⟩ | ⟨a, len0, cap0, m, n, D, Pl, hcs, hb, hl, hm, hmm, hx, hi⟩
  · exact ⟨none, 0, 0, [], hcs, Nat.le_refl _, Nat.zero_le _, ⟨rfl, fun h => absurd h (by omega)⟩, (fun r hr => by simp at hr)⟩
  · have hlm : len0 ≤ m := by rw [hmm]; split <;> omega
    have hex : ∀ i : Fin len0, ∃ x, ok x ∧ ∀ j u, (cells x)[j]? = some u → w.cell? (a.add (i.val * s + j)) = some u := fun i => by
      obtain ⟨cs', hc, ht'⟩ := hi i.val (by omega)
      obtain ⟨x, hx1, rfl⟩ := helem n cs' _ ht'
      obtain ⟨_, hcl, hat⟩ := World.cells?_some hc
      refine ⟨x, hx1, fun j u hu => ?_⟩
      have hj := (List.getElem?_eq_some_iff.1 hu).1
      rw [hC] at hat
      have := hat j (by rw [← hlen x]; exact hj)
      rw [hu] at this
      rw [← Go.Deep.add_add]
      exact this
    let f : Fin len0 → α := fun i => Classical.choose (hex i)
    have hfs : ∀ i, ok (f i) ∧ ∀ j u, (cells (f i))[j]? = some u → w.cell? (a.add (i.val * s + j)) = some u := fun i => Classical.choose_spec (hex i)
    refine ⟨some a, len0, cap0, List.ofFn f, hcs, hl, hm, ⟨by simp, fun h0 => ?_⟩, ?_⟩
    · have h1 := (hfs ⟨0, h0⟩).2 0 ((cells (f ⟨0, h0⟩))[0]'(by rw [hlen]; exact hs)) (List.getElem?_eq_getElem _)
      have ha : a = ⟨a.block, a.off, none⟩ := by
        have h2 : a.add (0 * s + 0) = a := by simp [Addr.add]
        rw [h2] at h1
        unfold World.cell? at h1
        split at h1
        · split at h1
          · cases h1
          · rename_i hsp
            cases a with | mk b o sp => cases sp <;> simp_all
        · cases h1
      have hblk : a.block < w.heap.size := by
        have := World.block_lt_of_cell? w _ h1
        simpa [Addr.add] using this
      refine ⟨a.block, a.off, by rw [← ha], hblk, fun k x hk j u hu => ?_⟩
      have hk' := (List.getElem?_eq_some_iff.1 hk).1
      simp only [List.length_ofFn] at hk'
      have hx' : x = f ⟨k, hk'⟩ := by
        rw [List.getElem?_ofFn] at hk
        simp only [hk', dif_pos, Option.some.injEq] at hk
        exact hk.symm
      subst hx'
      have := (hfs ⟨k, hk'⟩).2 j u hu
      rw [ha, addr_add] at this
      rw [Nat.add_assoc]
      exact this
    · intro x hx
      obtain ⟨i, rfl⟩ := List.mem_ofFn.1 hx
      exact (hfs i).1
theorem SlAt.ints {B n : Nat} {A : Option Addr} {l : List Int} (h : SlAt (fun k => [Value.int .i64 k]) 1 w B A n l) (hok : ∀ k ∈ l, i64ok k) : IntsAt w B A n l :=
  ⟨h.1, hok, fun h0 => by
    obtain ⟨b, o, e, hb, hg⟩ := h.2 h0
    exact ⟨b, o, e, hb, fun k x hx => by have := hg k x hx 0 _ rfl; rwa [Nat.mul_one, Nat.add_zero] at this⟩⟩
theorem cellsI1 : Try.prog.cellsOf 3 = 1 := by kernel_rfl
theorem cellsS1 : Try.prog.cellsOf 9 = 1 := by kernel_rfl
theorem cellsU1 : Try.prog.cellsOf 5 = 1 := by kernel_rfl
theorem cellsIs1 : Try.prog.cellsOf 58 = 1 := by kernel_rfl
theorem cellsRs1 : Try.prog.cellsOf 57 = 1 := by kernel_rfl
theorem cellsTs1 : Try.prog.cellsOf 59 = 1 := by kernel_rfl
theorem Try.cellsDevice : Try.prog.cellsOf 61 = 7 := by kernel_rfl
theorem Try.cellsLink : Try.prog.cellsOf 66 = 4 := by kernel_rfl
theorem read_ints {n : Nat} {cs : List Value} {y : DataW H × List MemPlace} (h : DataW.trod enc Try.prog w base spare held n 58 cs = some y) : ∃ (A : Option Addr) (m c : Nat) (l : List Int), cs = [.slice A m c] ∧ m ≤ c ∧ c ≤ maxLen ∧ IntsAt w w.heap.size A m l := by
  obtain ⟨A, m, c, l, e, h1, h2, h3, h4⟩ := read_elems (fun k => [Value.int .i64 k]) i64ok 1 Try.underlying58 cellsI1 (by omega) (fun _ => rfl) (fun _ _ _ h => read_int h) h
  exact ⟨A, m, c, l, e, h1, h2, h3.ints h4⟩
theorem read_rules {n : Nat} {cs : List Value} {y : DataW H × List MemPlace} (h : DataW.trod enc Try.prog w base spare held n 57 cs = some y) : ∃ (A : Option Addr) (m c : Nat) (l : List RuleV), cs = [.slice A m c] ∧ m ≤ c ∧ c ≤ maxLen ∧ RulesAt w w.heap.size A m l := by
  obtain ⟨A, m, c, l, e, h1, h2, h3, h4⟩ := read_elems RuleV.cells RuleV.ok 5 Try.underlying57 Try.cellsRule (by omega) RuleV.len (fun _ _ _ h => read_rule h) h
  exact ⟨A, m, c, l, e, h1, h2, h3.rules h4⟩
theorem read_routes {n : Nat} {cs : List Value} {y : DataW H × List MemPlace} (h : DataW.trod enc Try.prog w base spare held n 59 cs = some y) :
    ∃ (A : Option Addr) (m c : Nat) (l : List RouteV), cs = [.slice A m c] ∧ m ≤ c ∧ c ≤ maxLen ∧ SlAt RouteV.cells 3 w w.heap.size A m l ∧ ∀ r ∈ l, r.ok :=
  read_elems RouteV.cells RouteV.ok 3 Try.underlying59 Try.cellsRoute (by omega) RouteV.len (fun _ _ _ h => read_route h) h
theorem read_link {n : Nat} {cs : List Value} {y : DataW H × List MemPlace} (h : DataW.trod enc Try.prog w base spare held n 66 cs = some y) : ∃ l : LinkV, l.ok ∧ cs = l.cells := by
  obtain ⟨xs, n', _, _, hlen, hxl, hf⟩ := DataW.trod_struct Try.underlying66 h
  rw [Try.cellsLink] at hlen
  match cs, hlen with
  | [c0, c1, c2, c3], _ =>
    have h0 := hf 0 _ rfl
    have h1 := hf 1 _ rfl
    have h2 := hf 2 _ rfl
    have h3 := hf 3 _ rfl
    obtain ⟨y0, e0⟩ := get_some (xs := xs) (i := 0) (by rw [hxl]; decide)
    obtain ⟨y1, e1⟩ := get_some (xs := xs) (i := 1) (by rw [hxl]; decide)
    obtain ⟨y2, e2⟩ := get_some (xs := xs) (i := 2) (by rw [hxl]; decide)
    obtain ⟨y3, e3⟩ := get_some (xs := xs) (i := 3) (by rw [hxl]; decide)
    rw [e0] at h0
    rw [e1] at h1
    rw [e2] at h2
    rw [e3] at h3
    simp [cellsI1] at h0 h1 h2 h3
    obtain ⟨a, rfl, ha⟩ := trod_i64 h0
    obtain ⟨b, rfl, hb⟩ := trod_i64 h1
    obtain ⟨c, rfl, hc⟩ := trod_i64 h2
    obtain ⟨d, rfl, hd⟩ := trod_i64 h3
    exact ⟨⟨a, b, c, d⟩, ⟨ha, hb, hc, hd⟩, rfl⟩
theorem read_device {n : Nat} {cs : List Value} {y : DataW H × List MemPlace} (h : DataW.trod enc Try.prog w base spare held n 61 cs = some y) : ∃ d : DevV, DevAt w w.heap.size d ∧ cs = d.cells := by
  obtain ⟨xs, n', _, _, hlen, hxl, hf⟩ := DataW.trod_struct Try.underlying61 h
  rw [Try.cellsDevice] at hlen
  match cs, hlen with
  | [c0, c1, c2, c3, c4, c5, c6], _ =>
    have h0 := hf 0 _ rfl
    have h1 := hf 1 _ rfl
    have h2 := hf 2 _ rfl
    have h3 := hf 3 _ rfl
    have h4 := hf 4 _ rfl
    have h5 := hf 5 _ rfl
    have h6 := hf 6 _ rfl
    obtain ⟨y0, e0⟩ := get_some (xs := xs) (i := 0) (by rw [hxl]; decide)
    obtain ⟨y1, e1⟩ := get_some (xs := xs) (i := 1) (by rw [hxl]; decide)
    obtain ⟨y2, e2⟩ := get_some (xs := xs) (i := 2) (by rw [hxl]; decide)
    obtain ⟨y3, e3⟩ := get_some (xs := xs) (i := 3) (by rw [hxl]; decide)
    obtain ⟨y4, e4⟩ := get_some (xs := xs) (i := 4) (by rw [hxl]; decide)
    obtain ⟨y5, e5⟩ := get_some (xs := xs) (i := 5) (by rw [hxl]; decide)
    obtain ⟨y6, e6⟩ := get_some (xs := xs) (i := 6) (by rw [hxl]; decide)
    rw [e0] at h0
    rw [e1] at h1
    rw [e2] at h2
    rw [e3] at h3
    rw [e4] at h4
    rw [e5] at h5
    rw [e6] at h6
    simp [cellsI1, cellsS1, cellsU1, cellsIs1, cellsRs1, cellsTs1] at h0 h1 h2 h3 h4 h5 h6
    obtain ⟨s, hs, _, hsz⟩ := DataW.trod_string Try.underlying9 h0
    cases hs
    obtain ⟨a, rfl, ha⟩ := trod_i64 h1
    obtain ⟨b, rfl, hb⟩ := trod_i64 h2
    obtain ⟨c, rfl, hc⟩ := trod_u8 h3
    obtain ⟨A1, m1, k1, l1, f1, p1, q1, r1⟩ := read_ints h4
    obtain ⟨A2, m2, k2, l2, f2, p2, q2, r2⟩ := read_rules h5
    obtain ⟨A3, m3, k3, l3, f3, p3, q3, r3, r4⟩ := read_routes h6
    cases f1
    cases f2
    cases f3
    exact ⟨⟨s, a, b, c, A1, m1, k1, l1, A2, m2, k2, l2, A3, m3, k3, l3⟩, ⟨hsz, ha, hb, hc, r1, r2, r3, r4, ⟨p1, q1⟩, ⟨p2, q2⟩, ⟨p3, q3⟩⟩, rfl⟩
theorem cellsDs1 : Try.prog.cellsOf 22 = 1 := by kernel_rfl
theorem cellsLs1 : Try.prog.cellsOf 23 = 1 := by kernel_rfl
theorem Try.cellsNet : Try.prog.cellsOf 25 = 2 := by kernel_rfl
theorem open_net {v : Value} {d : DataW H} {p : List MemPlace} (hv : Value.okWide Try.prog w r b0 25 v) (h : DataW.Trod enc Try.prog w base spare held 25 v d p) : ∃ n : NetV, NetAt w w.heap.size n ∧ v = n.val := by
  obtain ⟨cs, rfl, hsz⟩ := okWide_struct Try.underlying25 hv
  obtain ⟨fuel, hf⟩ := h
  obtain ⟨xs, n', _, _, hlen, hxl, hf⟩ := DataW.trod_struct (cs := cs.toList) Try.underlying25 hf
  rw [Try.cellsNet] at hlen
  obtain ⟨c0, c1, hcs⟩ : ∃ c0 c1, cs.toList = [c0, c1] := by
    match h : cs.toList, hlen with
    | [c0, c1], _ => exact ⟨c0, c1, rfl⟩
  rw [hcs] at hf
  have h0 := hf 0 _ rfl
  have h1 := hf 1 _ rfl
  obtain ⟨y0, e0⟩ := get_some (xs := xs) (i := 0) (by rw [hxl]; decide)
  obtain ⟨y1, e1⟩ := get_some (xs := xs) (i := 1) (by rw [hxl]; decide)
  rw [e0] at h0
  rw [e1] at h1
  simp [cellsDs1, cellsLs1] at h0 h1
  obtain ⟨A1, m1, k1, l1, f1, p1, q1, r1, s1⟩ := read_elems DevV.cells (DevAt w w.heap.size) 7 Try.underlying22 Try.cellsDevice (by omega) DevV.len (fun _ _ _ h => read_device h) h0
  obtain ⟨A2, m2, k2, l2, f2, p2, q2, r2, s2⟩ := read_elems LinkV.cells LinkV.ok 4 Try.underlying23 Try.cellsLink (by omega) LinkV.len (fun _ _ _ h => read_link h) h1
  cases f1
  cases f2
  refine ⟨⟨A1, m1, k1, l1, A2, m2, k2, l2⟩, ⟨r1, s1, r2, s2, ⟨p1, q1⟩, ⟨p2, q2⟩⟩, ?_⟩
  have : cs = #[.slice A1 m1 k1, .slice A2 m2 k2] := arr_eq hcs
  rw [this]
  rfl
end
end Go.Proofs.Ytifkacnoiocebaa
namespace Go.Proofs.Ytifkacnoiocebaa
open Go.RowKit
def nameByte (b : UInt8) : Bool := (decide (97 ≤ b.toNat) && decide (b.toNat ≤ 122)) || (decide (48 ≤ b.toNat) && decide (b.toNat ≤ 57))
def namedB (s : ByteArray) : Bool := s.data.toList.all nameByte && decide (1 ≤ s.size) && decide (s.size ≤ 8)
def backsOk (addr : Int) : List Int → List Int → Bool
  | _, [] => true
  | pre, b :: t => decide (0 ≤ b) && decide (b < 16) && (b != addr) && !pre.contains b && backsOk addr (pre ++ [b]) t
def backsB (d : Dev) : Bool := backsOk d.addr [] d.backs && ((decide (0 < d.backs.length)) == (d.kind == 5))
def addrB (k : Int) : Bool := (k == 1) || (k == 4) || (k == 5)
def devE (d : Dev) : Int :=
  if decide (d.kind < 1) || decide (5 < d.kind) then 1
  else if (addrB d.kind && !(decide (0 ≤ d.addr) && decide (d.addr < 16))) || (!addrB d.kind && (d.addr != 0)) || ((d.pool != 0) != (d.kind == 4)) then 1
  else if decide (3 < d.backs.length) then 2
  else if !backsB d then 1
  else if (decide (0 < d.rules.length) && (d.kind != 2) && (d.kind != 3)) || (decide (0 < d.routes.length) && (d.kind != 2)) then 1
  else if decide (8 < d.rules.length) then 2
  else checkF d.routes
theorem backsOk_step {addr : Int} {l : List Int} {k : Nat} {b : Int} (h : l[k]? = some b) : backsOk addr (l.take k) (l.drop k) = (decide (0 ≤ b) && decide (b < 16) && (b != addr) && !(l.take k).contains b && backsOk addr (l.take (k + 1)) (l.drop (k + 1))) := by
  obtain ⟨hk, e⟩ := List.getElem?_eq_some_iff.1 h
  rw [List.drop_eq_getElem_cons hk, e, List.take_succ_eq_append_getElem hk, e]; rfl
theorem named_bad {s : ByteArray} {b : UInt8} (hm : b ∈ s.data.toList) (h : nameByte b = false) : namedB s = false := by
  have : s.data.toList.all nameByte = false := by
    rw [List.all_eq_false]
    exact ⟨b, hm, by simp [h]⟩
  simp [namedB, this]
theorem named_end {s : ByteArray} {k : Nat} (hk : s.size ≤ k) (h : ∀ b ∈ s.data.toList.take k, nameByte b = true) : namedB s = (decide (1 ≤ s.size) && decide (s.size ≤ 8)) := by
  have : s.data.toList.all nameByte = true := by
    rw [List.all_eq_true]
    rw [List.take_of_length_le (by simpa using hk)] at h
    exact h
  simp [namedB, this]
theorem named_walk (s : ByteArray) (W : World) (hs : s.size ≤ maxLen) : Calls Try.prog 48 #[.string s] W fun e W' => e = .returned (.bool (namedB s)) ∧ W = W' := by
  unfold maxLen at hs
  go_enter Try.func48, Try.ntmps48
  go_wp2
  go_loop [7] (fun i => ∃ k : Nat, k ≤ s.size ∧ i = .int .i64 k ∧ Hid (∀ b ∈ s.data.toList.take k, nameByte b = true)) (fun i => s.size - (intOf i).toNat)
  case atStart => exact ⟨0, Nat.zero_le _, rfl, hide (fun b hb => by simp at hb)⟩
  case round =>
    obtain ⟨k, hk, rfl, HN⟩ := hrel
    by_cases hlt : k < s.size
    · have HT := hide (show s.data.toList.take (k + 1) = s.data.toList.take k ++ [s[k]] from by rw [List.take_succ_eq_append_getElem (by simpa using hlt)]; rfl)
      have HM := hide (show s[k] ∈ s.data.toList from List.getElem_mem (by simpa using hlt))
      go_wp2
      all_goals first
        | (go_round
           case rel => exact ⟨k + 1, by omega, by go_num, hide (by
            intro b hb
            rw [HT.out, List.mem_append, List.mem_singleton] at hb
            rcases hb with hb | rfl
            · exact HN.out b hb
            · simp [nameByte]; omega)⟩
           case measure => simp [intOf]; omega)
        | (go_ret
           exact ⟨ret_bool (named_bad HM.out (by simp [nameByte]; omega)).symm, rfl⟩)
    · have HE := hide (named_end (by omega) HN.out)
      cases h1 : decide (1 ≤ s.size)
      · have h1' : ¬ 1 ≤ s.size := by simpa using h1
        go_wp2
        go_ret
        exact ⟨ret_bool (by rw [HE.out, h1]; rfl), rfl⟩
      · have h1' : 1 ≤ s.size := by simpa using h1
        by_cases h2 : s.size ≤ 8
        · have HF := hide (show namedB s = true from by rw [HE.out, h1]; simpa using h2)
          clear h1
          go_wp2
          go_ret
          exact ⟨ret_bool (by rw [HF.out]; simp <;> omega), rfl⟩
        · have HF := hide (show namedB s = false from by rw [HE.out, h1]; simpa using h2)
          clear h1
          go_wp2
          go_ret
          exact ⟨ret_bool (by rw [HF.out]; simp <;> omega), rfl⟩
theorem index_nil (A : Option Addr) (c : Nat) (x : Int) (W : World) : Calls Try.prog 77 #[.slice A 0 c, .int .i64 x] W fun e W' => e = .returned (.int .i64 (-1)) ∧ W = W' := by
  go_enter Try.func77, Try.ntmps77
  go_wp2
  refine wp_loop_rounds 1 ?_
  rw [rounds_succ]
  go_wp2
  go_ret
  exact ⟨rfl, rfl⟩
theorem contains_is (l : List Int) (A : Option Addr) (n c : Nat) (x : Int) (W : World) (hn : n ≤ 9223372036854775807) (hl : IntsAt W W.heap.size A n l) :
    Calls Try.prog 75 #[.slice A n c, .int .i64 x] W fun e W' => e = .returned (.bool (l.contains x)) ∧ RowKit.Below W.heap.size W W' := by
  by_cases hx : x ∈ l
  · have : l.contains x = true := by simpa using hx
    rw [this]
    exact contains_yes l A n c x W hn hl hx
  · have hc : l.contains x = false := by simpa using hx
    rw [hc]
    rcases Nat.eq_zero_or_pos n with rfl | h0
    · go_enter Try.func75, Try.ntmps75
      go_wp2_with fail
      refine (index_nil _ _ _ _).mono ?_
      rintro e w1 ⟨rfl, rfl⟩
      go_wp2
      go_ret
      exact ⟨rfl, RowKit.Below.refl _ _⟩
    · obtain ⟨b, o, rfl, _, _⟩ := hl.2.2 h0
      have HC := hide (index_walk l b o n c x W hn hl h0)
      have : idxF (fun y => x == y) l = -1 := by
        rcases idxF_cases (fun y => x == y) l with ⟨k, r, hk, _, hr, hy, _⟩ | ⟨hk, _⟩
        · have e : x = r := by simpa using hy
          exact absurd (e ▸ List.mem_of_getElem? hr) hx
        · exact hk
      rw [this] at HC
      clear hl hx hc
      go_enter Try.func75, Try.ntmps75
      go_wp2_with fail
      refine HC.out.mono ?_
      rintro e w1 ⟨rfl, hb⟩
      have HB := hide hb
      clear hb
      go_wp2
      go_ret
      exact ⟨rfl, HB.out⟩
theorem IntsAt.take {w : World} {B n : Nat} {A : Option Addr} {l : List Int} (h : IntsAt w B A n l) {k : Nat} (hk : k ≤ n) : IntsAt w B A k (l.take k) :=
  ⟨by rw [List.length_take, h.1]; omega, fun x hx => h.2.1 x (List.mem_of_mem_take hx), fun h0 => by
    obtain ⟨b, o, e, hb, hg⟩ := h.2.2 (by omega)
    refine ⟨b, o, e, hb, fun j x hj => hg j x ?_⟩
    have hjk : j < k := by have := (List.getElem?_eq_some_iff.1 hj).1; simp at this; omega
    rwa [List.getElem?_take_of_lt hjk] at hj⟩
def DBox (w : World) (N : Nat) (d : DevV) : Prop :=
  w.cell? ⟨N, 0, none⟩ = some (.string d.name) ∧ w.cell? ⟨N, 1, none⟩ = some (.int .i64 d.kind) ∧ w.cell? ⟨N, 2, none⟩ = some (.int .i64 d.addr) ∧ w.cell? ⟨N, 3, none⟩ = some (.int .u8 d.pool) ∧
  w.cell? ⟨N, 4, none⟩ = some (.slice d.bA d.bn d.bc) ∧ w.cell? ⟨N, 5, none⟩ = some (.slice d.rA d.rn d.rc) ∧ w.cell? ⟨N, 6, none⟩ = some (.slice d.tA d.tn d.tc)
theorem DBox.below {w w' : World} {B N : Nat} {d : DevV} (h : DBox w N d) (hB : RowKit.Below B w w') (hN : N < B) : DBox w' N d := by
  have e : ∀ o, w'.cell? ⟨N, o, none⟩ = w.cell? ⟨N, o, none⟩ := fun o => hB.cell (p := ⟨N, o, none⟩) hN
  unfold DBox
  rw [e, e, e, e, e, e, e]
  exact h
theorem DBox.new (w : World) (d : DevV) (t : TypeId) : DBox (w.alloc (.cells #[.string d.name, .int .i64 d.kind, .int .i64 d.addr, .int .u8 d.pool, .slice d.bA d.bn d.bc, .slice d.rA d.rn d.rc, .slice d.tA d.tn d.tc] t)) w.heap.size d := by
  have hbx := heap_alloc_new w (.cells #[.string d.name, .int .i64 d.kind, .int .i64 d.addr, .int .u8 d.pool, .slice d.bA d.bn d.bc, .slice d.rA d.rn d.rc, .slice d.tA d.tn d.tc] t)
  refine ⟨?_, ?_, ?_, ?_, ?_, ?_, ?_⟩ <;> (rw [cell_of_row _ _ _ _ _ _ hbx]; rfl)
theorem backs_walk (d : DevV) (W : World) (hd : DevAt W W.heap.size d) :
    Calls Try.prog 62 #[d.val] W fun e W' => e = .returned (.bool (backsB d.dev)) ∧ RowKit.Below W.heap.size W W' := by
  obtain ⟨W0, hW0⟩ : ∃ W0, W0 = W.alloc (.cells #[.string d.name, .int .i64 d.kind, .int .i64 d.addr, .int .u8 d.pool, .slice d.bA d.bn d.bc, .slice d.rA d.rn d.rc, .slice d.tA d.tn d.tc] 61) := ⟨_, rfl⟩
  have HB0 := hide (show RowKit.Below W.heap.size W W0 from by rw [hW0]; exact (RowKit.Below.refl _ _).alloc (Nat.le_refl _) _)
  have HSZ := hide (show W0.heap.size = W.heap.size + 1 from by rw [hW0]; simp)
  have HQ := hide (fun (w' : World) (hb : RowKit.Below W0.heap.size W0 w') => show DBox w' W.heap.size d ∧ IntsAt w' w'.heap.size d.bA d.bn d.bs ∧ RowKit.Below W.heap.size W w' from by
    have h1 := HB0.out.trans (hb.mono (by rw [HSZ.out]; omega))
    exact ⟨(show DBox W0 W.heap.size d from by rw [hW0]; exact DBox.new W d _).below hb (by rw [HSZ.out]; omega), hd.bs.below h1 h1.size, h1⟩)
  have HLEN := hide (show d.bs.length = d.bn from hd.bs.1)
  have hbc : d.bn ≤ d.bc := hd.cb.1
  have hbm : d.bc ≤ maxLen := hd.cb.2
  have hbm : d.bc ≤ 9223372036854775807 := by unfold maxLen at hbm; omega
  have HI := hide hd.bs.2.1
  have HD := hide (show backsB d.dev = (backsOk d.addr [] d.bs && ((decide (0 < d.bs.length)) == (d.kind == 5))) from rfl)
  generalize d.dev = dv at *
  clear hd
  obtain ⟨nm, kd, ad, pl, bA, bn, bc, bs, rA, rn, rc, rs, tA, tn, tc, ts⟩ := d
  simp only [DevV.val] at *
  obtain ⟨x0, x1, x2, x3, x4, x5, x6⟩ := (HQ.out W0 (RowKit.Below.refl _ _)).1
  go_enter Try.func62, Try.ntmps62
  go_wp2
  rw [← hW0]
  go_loopw [8] (fun i wr => ∃ k : Nat, k ≤ bn ∧ i = .int .i64 k ∧ Hid (backsOk ad [] bs = backsOk ad (bs.take k) (bs.drop k)) ∧ Hid (RowKit.Below W0.heap.size W0 wr)) (fun i _ => bn - (intOf i).toNat)
  case atStart => exact ⟨0, Nat.zero_le _, rfl, hide rfl, hide (RowKit.Below.refl _ _)⟩
  case round =>
    clear x0 x1 x2 x3 x4 x5 x6
    obtain ⟨k, hk, rfl, HC, HB⟩ := hrel
    obtain ⟨hbox, hints, hbW⟩ := HQ.out wr HB.out
    obtain ⟨x0, x1, x2, x3, x4, x5, x6⟩ := hbox
    have HBW := hide hbW
    by_cases hlt : k < bn
    · obtain ⟨b, hb⟩ : ∃ r, bs[k]? = some r := ⟨_, List.getElem?_eq_getElem (by have := HLEN.out; omega)⟩
      have HS := hide (backsOk_step (addr := ad) hb)
      obtain ⟨hb1, hb2⟩ := HI.out b (List.mem_of_getElem? hb)
      obtain ⟨bb, oo, rfl, hbB, hg⟩ := hints.2.2 (by omega)
      have q0 := hg k b hb
      have HIk := hide (hints.take (k := k) (by omega))
      have g1 : (k : Int) ≤ (bc : Int) := by omega
      clear hb hg hints hbW
      cases e1 : (decide (0 ≤ b) && decide (b < 16))
      · go_wp2_with fail
        refine (nwithin_walk b 16 _ false e1).mono ?_
        rintro e w1 ⟨rfl, rfl⟩
        have HF := hide (show backsB dv = false from by rw [HD.out, HC.out, HS.out, e1]; rfl)
        go_wp2
        go_ret
        exact ⟨ret_bool HF.out.symm, HBW.out⟩
      have HE1 := hide e1
      go_wp2_with fail
      refine (nwithin_walk b 16 _ true e1).mono ?_
      rintro e w1 ⟨rfl, rfl⟩
      clear e1
      cases e2 : (b == ad)
      case true =>
        have HF := hide (show backsB dv = false from by rw [HD.out, HC.out, HS.out]; simp [show b = ad by simpa using e2])
        go_wp2
        go_ret
        exact ⟨ret_bool HF.out.symm, HBW.out⟩
      have HE2 := hide (show (b != ad) = true from by simp [bne, e2])
      go_wp2_with fail
      refine (contains_is (bs.take k) (some ⟨bb, oo, none⟩) k bc b wr (by omega) HIk.out).mono ?_
      rintro e w1 ⟨rfl, hb⟩
      have HB1 := hide (HB.out.trans (hb.mono HB.out.size))
      have HBW1 := hide (HBW.out.trans (hb.mono HBW.out.size))
      clear hb
      cases e3 : (bs.take k).contains b
      case true =>
        have HF := hide (show backsB dv = false from by rw [HD.out, HC.out, HS.out, e3]; simp)
        go_wp2
        go_ret
        exact ⟨ret_bool HF.out.symm, HBW1.out⟩
      have HN := hide (show backsOk ad [] bs = backsOk ad (bs.take (k + 1)) (bs.drop (k + 1)) from by rw [HC.out, HS.out, HE1.out, HE2.out, e3]; simp)
      go_wp2
      go_roundw
      case rel => exact ⟨k + 1, by omega, by go_num, HN, HB1⟩
      case measure => simp [intOf]; omega
    · have hk' : k = bn := by omega
      have HN := hide (show backsB dv = ((decide (0 < bn)) == (kd == 5)) from by
        rw [HD.out, HC.out, List.drop_of_length_le (by have := HLEN.out; omega), HLEN.out]; rfl)
      cases e1 : decide (0 < bn)
      · have e1' : ¬ 0 < bn := by simpa using e1
        obtain rfl : bn = 0 := by omega
        cases e2 : (kd == 5)
        all_goals
          go_wp2
          go_ret
          exact ⟨ret_bool (by rw [HN.out, e2]; rfl), HBW.out⟩
      · have e1' : 0 < bn := by simpa using e1
        have HE := hide e1
        clear e1
        cases e2 : (kd == 5)
        all_goals
          go_wp2
          go_ret
          exact ⟨ret_bool (by rw [HN.out, e2, HE.out]; rfl), HBW.out⟩
open Go.ChangeAt Go.ChangeShapes Go.WideShapes
theorem LinkV.one (r : LinkV) : ∀ u ∈ r.cells, u.oneCell' = true := by
  intro u hu
  simp only [LinkV.cells, List.mem_cons, List.not_mem_nil, or_false] at hu
  rcases hu with rfl | rfl | rfl | rfl <;> rfl
def i64Cells (k : Int) : List Value := [.int .i64 k]
theorem i64Cells_len (k : Int) : (i64Cells k).length = 1 := rfl
theorem i64Cells_one (k : Int) : ∀ u ∈ i64Cells k, u.oneCell' = true := by
  intro u hu
  simp only [i64Cells, List.mem_cons, List.not_mem_nil, or_false] at hu
  subst hu; rfl
theorem Try.infoLink : (Try.prog.info? 66).map (fun i => (i.zero, i.size, i.bytes)) = some (some (.agg #[.int .i64 0, .int .i64 0, .int .i64 0, .int .i64 0]), 4, 32) := by kernel_rfl
theorem Try.infoDevice : (Try.prog.info? 61).map (fun i => (i.zero, i.size, i.bytes)) = some (some (.agg #[.string ⟨#[]⟩, .int .i64 0, .int .i64 0, .int .u8 0, .slice none 0 0, .slice none 0 0, .slice none 0 0]), 7, 112) := by kernel_rfl
theorem cloneLink_walk (l : List LinkV) (A : Option Addr) (n c : Nat) (W : World) (hn : n ≤ 1048576) (hl : SlAt LinkV.cells 4 W W.heap.size A n l) :
    Calls Try.prog 17 #[.slice A n c] W fun e W' =>
      ∃ v, e = .returned v ∧ W'.ownsRow W.heap.size 66 4 v n (l.flatMap LinkV.cells) ∧ Below W.heap.size W W' := by
  obtain ⟨i0, hi0, hz0, hz1, hz2⟩ := info_parts Try.infoLink
  rcases A with _ | ad
  · have hn0 : n = 0 := by
      rcases Nat.eq_zero_or_pos n with h | h
      · exact h
      · obtain ⟨b, o, e, _⟩ := hl.2 h; cases e
    subst hn0
    have : l = [] := List.eq_nil_of_length_eq_zero hl.1
    subst this
    have heq := fun w => Lib.run_eql_slice_nil (P := Try.prog) w _ _ none 0 c 0 0 Try.underlying23
    go_enter Try.func17, Try.ntmps17
    go_wp2
    go_ret
    exact ⟨_, rfl, World.ownsRow_nil _ _ _ _, Below.refl _ _⟩
  · have HR := hide (hl.reads LinkV.len (by omega))
    clear hl
    have heq := fun w => Lib.run_eql_slice_nil (P := Try.prog) w _ _ (some ad) n c 0 0 Try.underlying23
    go_enter Try.func17, Try.ntmps17
    go_wp2_with (at_builtin; refine wpList_append_any _ rfl (.tmp 5) (.tmp 6) 23 rfl W.heap.size 66 i0 _ 4 32 Try.underlying23 hi0 hz0 hz1 hz2 rfl (by omega) (.slice (some ⟨W.heap.size, 0, none⟩) 0 0) 0 [] rfl (World.ownsRow_lit _ #[] 0 (Nat.le_refl _) (by decide) rfl) W.heap.size (some ad) n c _ rfl (HR.out.alloc (Nat.le_refl _) _) (flat_one LinkV.one l) (by simp only [maxLen]; omega) (by omega) (by simp) ?_; intro v1 w1 hown1 hg1 hat1)
    go_ret
    refine ⟨v1, rfl, by simpa using hown1, ((Below.refl _ _).alloc (Nat.le_refl _) _).grown hg1 (by simp) (fun k hk => ?_)⟩
    simp [Value.ownBlock] at hk
    omega
theorem cloneInt_walk (l : List Int) (A : Option Addr) (n c : Nat) (W : World) (hn : n ≤ 1048576) (hl : SlAt i64Cells 1 W W.heap.size A n l) :
    Calls Try.prog 18 #[.slice A n c] W fun e W' =>
      ∃ v, e = .returned v ∧ W'.ownsRow W.heap.size 3 1 v n (l.flatMap i64Cells) ∧ Below W.heap.size W W' := by
  obtain ⟨i0, hi0, hz0, hz1, hz2⟩ := info_parts Try.infoInt
  rcases A with _ | ad
  · have hn0 : n = 0 := by
      rcases Nat.eq_zero_or_pos n with h | h
      · exact h
      · obtain ⟨b, o, e, _⟩ := hl.2 h; cases e
    subst hn0
    have : l = [] := List.eq_nil_of_length_eq_zero hl.1
    subst this
    have heq := fun w => Lib.run_eql_slice_nil (P := Try.prog) w _ _ none 0 c 0 0 Try.underlying58
    go_enter Try.func18, Try.ntmps18
    go_wp2
    go_ret
    exact ⟨_, rfl, World.ownsRow_nil _ _ _ _, Below.refl _ _⟩
  · have HR := hide (hl.reads i64Cells_len (by omega))
    clear hl
    have heq := fun w => Lib.run_eql_slice_nil (P := Try.prog) w _ _ (some ad) n c 0 0 Try.underlying58
    go_enter Try.func18, Try.ntmps18
    go_wp2_with (at_builtin; refine wpList_append_any _ rfl (.tmp 5) (.tmp 6) 58 rfl W.heap.size 3 i0 _ 1 8 Try.underlying58 hi0 hz0 hz1 hz2 rfl (by omega) (.slice (some ⟨W.heap.size, 0, none⟩) 0 0) 0 [] rfl (World.ownsRow_lit _ #[] 0 (Nat.le_refl _) (by decide) rfl) W.heap.size (some ad) n c _ rfl (HR.out.alloc (Nat.le_refl _) _) (flat_one i64Cells_one l) (by simp only [maxLen]; omega) (by omega) (by simp) ?_; intro v1 w1 hown1 hg1 hat1)
    go_ret
    refine ⟨v1, rfl, by simpa using hown1, ((Below.refl _ _).alloc (Nat.le_refl _) _).grown hg1 (by simp) (fun k hk => ?_)⟩
    simp [Value.ownBlock] at hk
    omega
end Go.Proofs.Ytifkacnoiocebaa
namespace Go.Proofs.Ytifkacnoiocebaa
open Go.Maps Go.RowKit Go.WideElems
structure KeysAny {α : Type} (P : Program) (kt : TypeId) (key : α → Value) (dom : α → Prop) : Prop where
  law : Keyed P kt
  total : ∀ a, dom a → ∃ kl, keyOf P kt (key a) = some kl
  inj : ∀ a a', key a = key a' → a = a'
def cutM {α : Type} [DecidableEq α] (M : α → Option Value) (a : α) : α → Option Value := fun x => if x = a then none else M x
section
variable {α : Type} {P : Program} {kt : TypeId} {key : α → Value} {dom : α → Prop} {w w' : World} {b : Nat} {M : α → Option Value}
theorem MapIs.sizeA (h : MapIs P kt key dom w b M) (K : KeysAny P kt key dom) (L : List α) (hL : L.length < maxLen) (hall : ∀ a, dom a → (M a).isSome = true → a ∈ L) : ∃ D, w.ownsMap P kt heldR b (Maps.size D) D ∧ Maps.size D < maxLen ∧
    (∀ a, dom a → ∀ kl, keyOf P kt (key a) = some kl → Maps.has D kl = (M a).isSome ∧ ∀ z, D.atKey kl (.held z) = .held ((M a).getD z)) ∧
    (∀ kl, Maps.has D kl = true → ∃ a, dom a ∧ keyOf P kt (key a) = some kl) := by
  obtain ⟨D, h1, h2, h3⟩ := h
  refine ⟨D, h1, ?_, h2, h3⟩
  have ht := h1.tidy K.law
  obtain ⟨es, rfl, hp⟩ := ht
  have hk : ∀ p ∈ es, WideAt.IsKeyLit p.1 := by
    obtain ⟨es', clock, _, F, _, hD⟩ := h1
    simp only [DataW.map.injEq] at hD
    intro p hpm
    rw [hD] at hpm
    have hm := (Go.WideShapes.sorted_perm _).mem_iff.1 hpm
    obtain ⟨v, hv⟩ := fit_keys F p hm
    exact K.law.key hv
  have hsz : es.length ≤ (L.filterMap fun a => keyOf P kt (key a)).length := by
    have := length_le_of_subset' (es.map (·.1)) (L.filterMap fun a => keyOf P kt (key a)) (by
      rw [List.nodup_iff_pairwise_ne, List.pairwise_map]; exact hp) (fun kl hkl => by
      obtain ⟨p, hpm, rfl⟩ := List.mem_map.1 hkl
      have hh : Maps.has (.map es) p.1 = true := by
        rw [Maps.has_eq, List.any_eq_true]
        exact ⟨p, hpm, WideAt.sameKey_self (hk p hpm)⟩
      obtain ⟨a, ha, hka⟩ := h3 p.1 hh
      exact List.mem_filterMap.2 ⟨a, hall a ha ((h2 a ha _ hka).1.symm.trans hh), hka⟩)
    simpa using this
  have := List.length_filterMap_le (fun a => keyOf P kt (key a)) L
  show es.length < maxLen
  omega
theorem MapIs.lookA {t et : TypeId} (h : MapIs P kt key dom w b M) (K : KeysAny P kt key dom) (ht : P.underlying t = some (.map kt et)) {z : Value} (hz : (zeroValue et).run P w = .ok z w) {a : α} (ha : dom a) :
    (Instr.lookup t (.map (some b)) (key a) true).run P w = .ok (.tuple #[(M a).getD z, .bool (M a).isSome]) w ∧ (Instr.lookup t (.map (some b)) (key a) false).run P w = .ok ((M a).getD z) w := by
  obtain ⟨D, h1, h2, h3⟩ := h
  obtain ⟨kl, hkl⟩ := K.total a ha
  obtain ⟨e1, e2⟩ := h2 a ha kl hkl
  obtain ⟨v, ps, hrun, hv⟩ := h1.look_ok K.law ht hz (zd := .held z) (zp := []) rfl hkl
  obtain ⟨v', ps', hrun', hv'⟩ := h1.lookup K.law ht hz (zd := .held z) (zp := []) rfl hkl
  rw [e2 z] at hv hv'
  simp only [heldR, Option.some.injEq, Prod.mk.injEq, DataW.held.injEq] at hv hv'
  rw [hrun, hrun', e1, hv.1, hv'.1]
  exact ⟨rfl, rfl⟩
theorem MapIs.storeA [DecidableEq α] {t et : TypeId} (h : MapIs P kt key dom w b M) (K : KeysAny P kt key dom) (L : List α) (hL : L.length < maxLen) (hall : ∀ a, dom a → (M a).isSome = true → a ∈ L) (ht : P.underlying t = some (.map kt et)) {a : α} (ha : dom a) (v : Value) :
    ∃ w', (Instr.mapUpdate t (.map (some b)) (key a) v).run P w = .ok () w' ∧ MapIs P kt key dom w' b (putM M a v) ∧ w.mapTurned w' b := by
  obtain ⟨D, h1, hn, h2, h3⟩ := h.sizeA K L hL hall
  obtain ⟨kl, hkl⟩ := K.total a ha
  obtain ⟨w', hrun, r1, r2⟩ := h1.store K.law ht hn hkl (val := v) (d := .held v) (ps := []) rfl
  have hD : IsMap D := (h1.tidy K.law).isMap
  refine ⟨w', hrun, ⟨D.put kl (.held v), ownsMap_tight r1, ?_, ?_⟩, r2⟩
  · intro a' ha' kl' hkl'
    by_cases e : a' = a
    · subst e
      have : kl' = kl := Option.some.inj (hkl'.symm.trans hkl)
      subst this
      rw [putM_same]
      exact ⟨Maps.has_put_same hD (K.law.key hkl) _, fun z => Maps.atKey_put_same hD (K.law.key hkl) _ _⟩
    · rw [putM_other M v e]
      have hne : kl' ≠ kl := fun ek => by subst ek; exact e (K.inj _ _ (K.law.inj hkl' hkl))
      rw [Maps.has_put_other hne]
      obtain ⟨q1, q2⟩ := h2 a' ha' kl' hkl'
      exact ⟨q1, fun z => by rw [Maps.atKey_put_other hne]; exact q2 z⟩
  · intro kl' hkl'
    by_cases e : kl' = kl
    · subst e; exact ⟨a, ha, hkl⟩
    · rw [Maps.has_put_other e] at hkl'
      exact h3 kl' hkl'
theorem MapIs.dropA [DecidableEq α] {t et : TypeId} (h : MapIs P kt key dom w b M) (K : KeysAny P kt key dom) (ht : P.underlying t = some (.map kt et)) {a : α} (ha : dom a) (ty : TypeId) :
    ∃ w', (Builtin.delete_ #[t, kt] ty #[.map (some b), key a]).run P w = .ok (.tuple #[]) w' ∧ MapIs P kt key dom w' b (cutM M a) ∧ w.mapTurned w' b := by
  obtain ⟨D, h1, h2, h3⟩ := h
  obtain ⟨kl, hkl⟩ := K.total a ha
  obtain ⟨w', hrun, r1, r2⟩ := h1.drop K.law ht hkl ty
  refine ⟨w', hrun, ⟨D.del kl, ownsMap_tight r1, ?_, ?_⟩, r2⟩
  · intro a' ha' kl' hkl'
    by_cases e : a' = a
    · subst e
      have : kl' = kl := Option.some.inj (hkl'.symm.trans hkl)
      subst this
      have hc : cutM M a' a' = none := by simp [cutM]
      rw [hc]
      exact ⟨Maps.has_del_same, fun z => Maps.atKey_del_same _⟩
    · have hc : cutM M a a' = M a' := by simp [cutM, e]
      rw [hc]
      have hne : kl' ≠ kl := fun ek => by subst ek; exact e (K.inj _ _ (K.law.inj hkl' hkl))
      rw [Maps.has_del_other hne]
      obtain ⟨q1, q2⟩ := h2 a' ha' kl' hkl'
      exact ⟨q1, fun z => by rw [Maps.atKey_del_other hne]; exact q2 z⟩
  · intro kl' hkl'
    by_cases e : kl' = kl
    · subst e; exact ⟨a, ha, hkl⟩
    · rw [Maps.has_del_other e] at hkl'
      exact h3 kl' hkl'
end
section
variable {α : Type} {P : Program} {kt : TypeId} {key : α → Value} {dom : α → Prop} {b : Nat} {M : α → Option Value} (w : World)
end
end Go.Proofs.Ytifkacnoiocebaa
