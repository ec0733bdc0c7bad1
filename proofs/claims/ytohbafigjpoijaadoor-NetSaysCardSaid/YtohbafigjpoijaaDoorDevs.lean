/- Devices and nets in memory; nets as arguments opened. -/
import Derived.Test.YtohbafigjpoijaaDoorNetAt
import Derived.Test.YtohbafigjpoijaaDoorG4
import Derived.Test.YtohbafigjpoijaaDoorG2
set_option linter.unusedVariables false
set_option linter.unusedSimpArgs false
namespace Go.Proofs.YtohbafigjpoijaaDoor
open Go.ChangeShapes Go.WideShapes Go.ChangeAt Go.RowKit Go.Joins Go.Deep

/-- A device, as it lies in memory. -/
structure DevV where
  name : ByteArray
  kind : Int
  addr : Int
  pool : Nat
  bA : Option Addr
  bn : Nat
  bc : Nat
  bs : List Int
  rA : Option Addr
  rn : Nat
  rc : Nat
  rs : List RuleV
  tA : Option Addr
  tn : Nat
  tc : Nat
  ts : List RouteV
/-- .. and plainly. -/
structure Dev where
  name : ByteArray
  kind : Int
  addr : Int
  pool : Nat
  backs : List Int
  rules : List RuleV
  routes : List RouteV
def DevV.dev (d : DevV) : Dev := ⟨d.name, d.kind, d.addr, d.pool, d.bs, d.rs, d.ts⟩
def DevV.cells (d : DevV) : List Value := [.string d.name, .int .i64 d.kind, .int .i64 d.addr, .int .u8 d.pool, .slice d.bA d.bn d.bc, .slice d.rA d.rn d.rc, .slice d.tA d.tn d.tc]
def DevV.val (d : DevV) : Value := .agg #[.string d.name, .int .i64 d.kind, .int .i64 d.addr, .int .u8 d.pool, .slice d.bA d.bn d.bc, .slice d.rA d.rn d.rc, .slice d.tA d.tn d.tc]
theorem DevV.len (d : DevV) : d.cells.length = 7 := rfl
theorem DevV.one (d : DevV) : ∀ u ∈ d.cells, u.oneCell' = true := by
  intro u hu
  simp only [DevV.cells, List.mem_cons, List.not_mem_nil, or_false] at hu
  rcases hu with rfl | rfl | rfl | rfl | rfl | rfl | rfl <;> rfl

structure DevAt (w : World) (B : Nat) (d : DevV) : Prop where
  nm : d.name.size ≤ maxLen
  kd : i64ok d.kind
  ad : i64ok d.addr
  pl : d.pool < 256
  bs : IntsAt w B d.bA d.bn d.bs
  rs : RulesAt w B d.rA d.rn d.rs
  ts : SlAt RouteV.cells 3 w B d.tA d.tn d.ts
  tok : ∀ r ∈ d.ts, r.ok
  cb : d.bn ≤ d.bc ∧ d.bc ≤ maxLen
  cr : d.rn ≤ d.rc ∧ d.rc ≤ maxLen
  ct : d.tn ≤ d.tc ∧ d.tc ≤ maxLen
theorem DevAt.below {w w' : World} {B B' : Nat} {d : DevV} (h : DevAt w B d) (hB : RowKit.Below B w w') (hB' : B ≤ B') : DevAt w' B' d :=
  ⟨h.nm, h.kd, h.ad, h.pl, h.bs.below hB hB', h.rs.below hB hB', h.ts.below hB hB', h.tok, h.cb, h.cr, h.ct⟩

structure NetV where
  dA : Option Addr
  dn : Nat
  dc : Nat
  ds : List DevV
  lA : Option Addr
  ln : Nat
  lc : Nat
  ls : List LinkV
def NetV.val (n : NetV) : Value := .agg #[.slice n.dA n.dn n.dc, .slice n.lA n.ln n.lc]
def NetV.devs (n : NetV) : List Dev := n.ds.map DevV.dev
structure NetAt (w : World) (B : Nat) (n : NetV) : Prop where
  ds : SlAt DevV.cells 7 w B n.dA n.dn n.ds
  dok : ∀ d ∈ n.ds, DevAt w B d
  ls : SlAt LinkV.cells 4 w B n.lA n.ln n.ls
  lok : ∀ l ∈ n.ls, l.ok
  cd : n.dn ≤ n.dc ∧ n.dc ≤ maxLen
  cl : n.ln ≤ n.lc ∧ n.lc ≤ maxLen
theorem NetAt.below {w w' : World} {B B' : Nat} {n : NetV} (h : NetAt w B n) (hB : RowKit.Below B w w') (hB' : B ≤ B') : NetAt w' B' n :=
  ⟨h.ds.below hB hB', fun d hd => (h.dok d hd).below hB hB', h.ls.below hB hB', h.lok, h.cd, h.cl⟩
theorem NetAt.dlen {w : World} {B : Nat} {n : NetV} (h : NetAt w B n) : n.ds.length = n.dn := h.ds.1
theorem NetAt.llen {w : World} {B : Nat} {n : NetV} (h : NetAt w B n) : n.ls.length = n.ln := h.ls.1

theorem dev_get {w : World} {B b o n k : Nat} {l : List DevV} {r : DevV} (h : SlAt DevV.cells 7 w B (some ⟨b, o, none⟩) n l) (hr : l[k]? = some r) : b < B ∧
    w.cell? ⟨b, o + k * 7, none⟩ = some (.string r.name) ∧ w.cell? ⟨b, o + k * 7 + 1, none⟩ = some (.int .i64 r.kind) ∧ w.cell? ⟨b, o + k * 7 + 2, none⟩ = some (.int .i64 r.addr) ∧ w.cell? ⟨b, o + k * 7 + 3, none⟩ = some (.int .u8 r.pool) ∧
    w.cell? ⟨b, o + k * 7 + 4, none⟩ = some (.slice r.bA r.bn r.bc) ∧ w.cell? ⟨b, o + k * 7 + 5, none⟩ = some (.slice r.rA r.rn r.rc) ∧ w.cell? ⟨b, o + k * 7 + 6, none⟩ = some (.slice r.tA r.tn r.tc) :=
  ⟨(h.get hr).1, (h.get hr).2 0 _ rfl, (h.get hr).2 1 _ rfl, (h.get hr).2 2 _ rfl, (h.get hr).2 3 _ rfl, (h.get hr).2 4 _ rfl, (h.get hr).2 5 _ rfl, (h.get hr).2 6 _ rfl⟩

section
variable {H : Type} {enc : TypeId × Value → H} {w : World} {base : Nat} {spare : Nat → Bool} {held : Bool} {r : Reach} {b0 : Nat}

/-- A slice read, whatever stands round it. -/
theorem read_elems {α : Type} {P : Program} (cells : α → List Value) (ok : α → Prop) (s : Nat) {t e : TypeId} (ht : P.underlying t = some (.slice e)) (hC : P.cellsOf e = s) (hs : 0 < s) (hlen : ∀ r, (cells r).length = s)
    (helem : ∀ (n : Nat) (cs : List Value) (y : DataW H × List MemPlace), DataW.trod enc P w base spare held n e cs = some y → ∃ r, ok r ∧ cs = cells r)
    {fuel : Nat} {cs : List Value} {y : DataW H × List MemPlace} (hf : DataW.trod enc P w base spare held fuel t cs = some y) :
    ∃ (A : Option Addr) (n c : Nat) (l : List α), cs = [.slice A n c] ∧ n ≤ c ∧ c ≤ maxLen ∧ SlAt cells s w w.heap.size A n l ∧ (∀ r ∈ l, ok r) := by
  obtain ⟨d, p⟩ := y
  rcases open_slice ht hf with ⟨hcs, hx⟩ | ⟨a, len0, cap0, m, n, D, Pl, hcs, hb, hl, hm, hmm, hx, hi⟩
  · exact ⟨none, 0, 0, [], hcs, Nat.le_refl _, Nat.zero_le _, ⟨rfl, fun h => absurd h (by omega)⟩, (fun r hr => by simp at hr)⟩
  · have hlm : len0 ≤ m := by rw [hmm]; split <;> omega
    have hex : ∀ i : Fin len0, ∃ x, ok x ∧ ∀ j u, (cells x)[j]? = some u → w.cell? (a.add (i.val * s + j)) = some u := fun i => by
      obtain ⟨cs', hc, ht'⟩ := hi i.val (by omega)
      obtain ⟨x, hx1, rfl⟩ := helem n cs' _ ht'
      obtain ⟨_, hcl, hat⟩ := World.cells?_some hc
      refine ⟨x, hx1, fun j u hu => ?_⟩
      have hj := (List.getElem?_eq_some_iff.1 hu).1
      rw [hC] at hat
      have := hat j (by rw [← hlen x]; exact hj)
      rw [hu] at this
      rw [← Go.Deep.add_add]
      exact this
    let f : Fin len0 → α := fun i => Classical.choose (hex i)
    have hfs : ∀ i, ok (f i) ∧ ∀ j u, (cells (f i))[j]? = some u → w.cell? (a.add (i.val * s + j)) = some u := fun i => Classical.choose_spec (hex i)
    refine ⟨some a, len0, cap0, List.ofFn f, hcs, hl, hm, ⟨by simp, fun h0 => ?_⟩, ?_⟩
    · have h1 := (hfs ⟨0, h0⟩).2 0 ((cells (f ⟨0, h0⟩))[0]'(by rw [hlen]; exact hs)) (List.getElem?_eq_getElem _)
      have ha : a = ⟨a.block, a.off, none⟩ := by
        have h2 : a.add (0 * s + 0) = a := by simp [Addr.add]
        rw [h2] at h1
        unfold World.cell? at h1
        split at h1
        · split at h1
          · cases h1
          · rename_i hsp
            cases a with | mk b o sp => cases sp <;> simp_all
        · cases h1
      have hblk : a.block < w.heap.size := by
        have := World.block_lt_of_cell? w _ h1
        simpa [Addr.add] using this
      refine ⟨a.block, a.off, by rw [← ha], hblk, fun k x hk j u hu => ?_⟩
      have hk' := (List.getElem?_eq_some_iff.1 hk).1
      simp only [List.length_ofFn] at hk'
      have hx' : x = f ⟨k, hk'⟩ := by
        rw [List.getElem?_ofFn] at hk
        simp only [hk', dif_pos, Option.some.injEq] at hk
        exact hk.symm
      subst hx'
      have := (hfs ⟨k, hk'⟩).2 j u hu
      rw [ha, addr_add] at this
      rw [Nat.add_assoc]
      exact this
    · intro x hx
      obtain ⟨i, rfl⟩ := List.mem_ofFn.1 hx
      exact (hfs i).1

theorem SlAt.ints {B n : Nat} {A : Option Addr} {l : List Int} (h : SlAt (fun k => [Value.int .i64 k]) 1 w B A n l) (hok : ∀ k ∈ l, i64ok k) : IntsAt w B A n l :=
  ⟨h.1, hok, fun h0 => by
    obtain ⟨b, o, e, hb, hg⟩ := h.2 h0
    exact ⟨b, o, e, hb, fun k x hx => by have := hg k x hx 0 _ rfl; rwa [Nat.mul_one, Nat.add_zero] at this⟩⟩

theorem cellsI1 : Tryd.prog.cellsOf 3 = 1 := by kernel_rfl
theorem cellsS1 : Tryd.prog.cellsOf 9 = 1 := by kernel_rfl
theorem cellsU1 : Tryd.prog.cellsOf 5 = 1 := by kernel_rfl
theorem cellsIs1 : Tryd.prog.cellsOf 67 = 1 := by kernel_rfl
theorem cellsRs1 : Tryd.prog.cellsOf 68 = 1 := by kernel_rfl
theorem cellsTs1 : Tryd.prog.cellsOf 69 = 1 := by kernel_rfl
theorem Tryd.cellsDevice : Tryd.prog.cellsOf 71 = 7 := by kernel_rfl
theorem Tryd.cellsLink : Tryd.prog.cellsOf 100 = 4 := by kernel_rfl

theorem read_ints {n : Nat} {cs : List Value} {y : DataW H × List MemPlace} (h : DataW.trod enc Tryd.prog w base spare held n 67 cs = some y) : ∃ (A : Option Addr) (m c : Nat) (l : List Int), cs = [.slice A m c] ∧ m ≤ c ∧ c ≤ maxLen ∧ IntsAt w w.heap.size A m l := by
  obtain ⟨A, m, c, l, e, h1, h2, h3, h4⟩ := read_elems (fun k => [Value.int .i64 k]) i64ok 1 Tryd.underlying67 cellsI1 (by omega) (fun _ => rfl) (fun _ _ _ h => read_int h) h
  exact ⟨A, m, c, l, e, h1, h2, h3.ints h4⟩
theorem read_rules {n : Nat} {cs : List Value} {y : DataW H × List MemPlace} (h : DataW.trod enc Tryd.prog w base spare held n 68 cs = some y) : ∃ (A : Option Addr) (m c : Nat) (l : List RuleV), cs = [.slice A m c] ∧ m ≤ c ∧ c ≤ maxLen ∧ RulesAt w w.heap.size A m l := by
  obtain ⟨A, m, c, l, e, h1, h2, h3, h4⟩ := read_elems RuleV.cells RuleV.ok 5 Tryd.underlying68 Tryd.cellsRule (by omega) RuleV.len (fun _ _ _ h => read_rule h) h
  exact ⟨A, m, c, l, e, h1, h2, h3.rules h4⟩
theorem read_routes {n : Nat} {cs : List Value} {y : DataW H × List MemPlace} (h : DataW.trod enc Tryd.prog w base spare held n 69 cs = some y) :
    ∃ (A : Option Addr) (m c : Nat) (l : List RouteV), cs = [.slice A m c] ∧ m ≤ c ∧ c ≤ maxLen ∧ SlAt RouteV.cells 3 w w.heap.size A m l ∧ ∀ r ∈ l, r.ok :=
  read_elems RouteV.cells RouteV.ok 3 Tryd.underlying69 Tryd.cellsRoute (by omega) RouteV.len (fun _ _ _ h => read_route h) h

set_option maxRecDepth 100000 in
set_option maxHeartbeats 1000000 in
theorem read_link {n : Nat} {cs : List Value} {y : DataW H × List MemPlace} (h : DataW.trod enc Tryd.prog w base spare held n 100 cs = some y) : ∃ l : LinkV, l.ok ∧ cs = l.cells := by
  obtain ⟨xs, n', _, _, hlen, hxl, hf⟩ := DataW.trod_struct Tryd.underlying100 h
  rw [Tryd.cellsLink] at hlen
  match cs, hlen with
  | [c0, c1, c2, c3], _ =>
    have h0 := hf 0 _ rfl
    have h1 := hf 1 _ rfl
    have h2 := hf 2 _ rfl
    have h3 := hf 3 _ rfl
    obtain ⟨y0, e0⟩ := get_some (xs := xs) (i := 0) (by rw [hxl]; decide)
    obtain ⟨y1, e1⟩ := get_some (xs := xs) (i := 1) (by rw [hxl]; decide)
    obtain ⟨y2, e2⟩ := get_some (xs := xs) (i := 2) (by rw [hxl]; decide)
    obtain ⟨y3, e3⟩ := get_some (xs := xs) (i := 3) (by rw [hxl]; decide)
    rw [e0] at h0
    rw [e1] at h1
    rw [e2] at h2
    rw [e3] at h3
    simp [cellsI1] at h0 h1 h2 h3
    obtain ⟨a, rfl, ha⟩ := trod_i64 h0
    obtain ⟨b, rfl, hb⟩ := trod_i64 h1
    obtain ⟨c, rfl, hc⟩ := trod_i64 h2
    obtain ⟨d, rfl, hd⟩ := trod_i64 h3
    exact ⟨⟨a, b, c, d⟩, ⟨ha, hb, hc, hd⟩, rfl⟩

set_option maxRecDepth 100000 in
set_option maxHeartbeats 1000000 in
theorem read_device {n : Nat} {cs : List Value} {y : DataW H × List MemPlace} (h : DataW.trod enc Tryd.prog w base spare held n 71 cs = some y) : ∃ d : DevV, DevAt w w.heap.size d ∧ cs = d.cells := by
  obtain ⟨xs, n', _, _, hlen, hxl, hf⟩ := DataW.trod_struct Tryd.underlying71 h
  rw [Tryd.cellsDevice] at hlen
  match cs, hlen with
  | [c0, c1, c2, c3, c4, c5, c6], _ =>
    have h0 := hf 0 _ rfl
    have h1 := hf 1 _ rfl
    have h2 := hf 2 _ rfl
    have h3 := hf 3 _ rfl
    have h4 := hf 4 _ rfl
    have h5 := hf 5 _ rfl
    have h6 := hf 6 _ rfl
    obtain ⟨y0, e0⟩ := get_some (xs := xs) (i := 0) (by rw [hxl]; decide)
    obtain ⟨y1, e1⟩ := get_some (xs := xs) (i := 1) (by rw [hxl]; decide)
    obtain ⟨y2, e2⟩ := get_some (xs := xs) (i := 2) (by rw [hxl]; decide)
    obtain ⟨y3, e3⟩ := get_some (xs := xs) (i := 3) (by rw [hxl]; decide)
    obtain ⟨y4, e4⟩ := get_some (xs := xs) (i := 4) (by rw [hxl]; decide)
    obtain ⟨y5, e5⟩ := get_some (xs := xs) (i := 5) (by rw [hxl]; decide)
    obtain ⟨y6, e6⟩ := get_some (xs := xs) (i := 6) (by rw [hxl]; decide)
    rw [e0] at h0
    rw [e1] at h1
    rw [e2] at h2
    rw [e3] at h3
    rw [e4] at h4
    rw [e5] at h5
    rw [e6] at h6
    simp [cellsI1, cellsS1, cellsU1, cellsIs1, cellsRs1, cellsTs1] at h0 h1 h2 h3 h4 h5 h6
    obtain ⟨s, hs, _, hsz⟩ := DataW.trod_string Tryd.underlying9 h0
    cases hs
    obtain ⟨a, rfl, ha⟩ := trod_i64 h1
    obtain ⟨b, rfl, hb⟩ := trod_i64 h2
    obtain ⟨c, rfl, hc⟩ := trod_u8 h3
    obtain ⟨A1, m1, k1, l1, f1, p1, q1, r1⟩ := read_ints h4
    obtain ⟨A2, m2, k2, l2, f2, p2, q2, r2⟩ := read_rules h5
    obtain ⟨A3, m3, k3, l3, f3, p3, q3, r3, r4⟩ := read_routes h6
    cases f1
    cases f2
    cases f3
    exact ⟨⟨s, a, b, c, A1, m1, k1, l1, A2, m2, k2, l2, A3, m3, k3, l3⟩, ⟨hsz, ha, hb, hc, r1, r2, r3, r4, ⟨p1, q1⟩, ⟨p2, q2⟩, ⟨p3, q3⟩⟩, rfl⟩

theorem cellsDs1 : Tryd.prog.cellsOf 50 = 1 := by kernel_rfl
theorem cellsLs1 : Tryd.prog.cellsOf 51 = 1 := by kernel_rfl
theorem Tryd.cellsNet : Tryd.prog.cellsOf 53 = 2 := by kernel_rfl

set_option maxRecDepth 100000 in
set_option maxHeartbeats 1000000 in
theorem open_net {v : Value} {d : DataW H} {p : List MemPlace} (hv : Value.okWide Tryd.prog w r b0 53 v) (h : DataW.Trod enc Tryd.prog w base spare held 53 v d p) : ∃ n : NetV, NetAt w w.heap.size n ∧ v = n.val := by
  obtain ⟨cs, rfl, hsz⟩ := okWide_struct Tryd.underlying53 hv
  obtain ⟨fuel, hf⟩ := h
  obtain ⟨xs, n', _, _, hlen, hxl, hf⟩ := DataW.trod_struct (cs := cs.toList) Tryd.underlying53 hf
  rw [Tryd.cellsNet] at hlen
  obtain ⟨c0, c1, hcs⟩ : ∃ c0 c1, cs.toList = [c0, c1] := by
    match h : cs.toList, hlen with
    | [c0, c1], _ => exact ⟨c0, c1, rfl⟩
  rw [hcs] at hf
  have h0 := hf 0 _ rfl
  have h1 := hf 1 _ rfl
  obtain ⟨y0, e0⟩ := get_some (xs := xs) (i := 0) (by rw [hxl]; decide)
  obtain ⟨y1, e1⟩ := get_some (xs := xs) (i := 1) (by rw [hxl]; decide)
  rw [e0] at h0
  rw [e1] at h1
  simp [cellsDs1, cellsLs1] at h0 h1
  obtain ⟨A1, m1, k1, l1, f1, p1, q1, r1, s1⟩ := read_elems DevV.cells (DevAt w w.heap.size) 7 Tryd.underlying50 Tryd.cellsDevice (by omega) DevV.len (fun _ _ _ h => read_device h) h0
  obtain ⟨A2, m2, k2, l2, f2, p2, q2, r2, s2⟩ := read_elems LinkV.cells LinkV.ok 4 Tryd.underlying51 Tryd.cellsLink (by omega) LinkV.len (fun _ _ _ h => read_link h) h1
  cases f1
  cases f2
  refine ⟨⟨A1, m1, k1, l1, A2, m2, k2, l2⟩, ⟨r1, s1, r2, s2, ⟨p1, q1⟩, ⟨p2, q2⟩⟩, ?_⟩
  have : cs = #[.slice A1 m1 k1, .slice A2 m2 k2] := arr_eq hcs
  rw [this]
  rfl
end
end Go.Proofs.YtohbafigjpoijaaDoor
