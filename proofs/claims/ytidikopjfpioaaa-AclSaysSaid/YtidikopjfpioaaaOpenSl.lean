/- Arguments opened: slices of structs. -/
import Derived.Test.YtidikopjfpioaaaOpen
import Derived.Test.YtidikopjfpioaaaClone
import Derived.Deep.Slices
import Derived.Deep.Fields
set_option linter.unusedVariables false
set_option linter.unusedSimpArgs false
namespace Go.Proofs.Ytidikopjfpioaaa
open Go.ChangeShapes Go.WideShapes Go.ChangeAt Go.RowKit Go.Joins Go.Deep

section
variable {H : Type} {enc : TypeId × Value → H} {w : World} {base : Nat} {spare : Nat → Bool} {held : Bool} {r : Reach} {b0 : Nat}

theorem open_elems {α : Type} {P : Program} (cells : α → List Value) (ok : α → Prop) (s : Nat) {t e : TypeId} (ht : P.underlying t = some (.slice e)) (hC : P.cellsOf e = s) (hs : 0 < s) (hlen : ∀ r, (cells r).length = s)
    (helem : ∀ (n : Nat) (cs : List Value) (y : DataW H × List MemPlace), DataW.trod enc P w base spare held n e cs = some y → ∃ r, ok r ∧ cs = cells r)
    {v : Value} {d : DataW H} {p : List MemPlace} (hv : Value.okWide P w r b0 t v) (h : DataW.Trod enc P w base spare held t v d p) :
    ∃ (A : Option Addr) (n c : Nat) (l : List α), v = .slice A n c ∧ n ≤ c ∧ c ≤ maxLen ∧ SlAt cells s w w.heap.size A n l ∧ (∀ r ∈ l, ok r) ∧ (n = 0 ∨ ∃ elems sp, d = .slice elems sp ∧ elems.length = n) := by
  obtain ⟨a0, len0, cap0, rfl⟩ := okWide_slice ht hv
  obtain ⟨fuel, hf⟩ := h
  have hf' : DataW.trod enc P w base spare held fuel t [.slice a0 len0 cap0] = some (d, p) := hf
  rcases open_slice ht hf' with ⟨hcs, hx⟩ | ⟨a, len, cap, m, n, D, Pl, hcs, hb, hl, hm, hmm, hx, hi⟩
  · simp only [List.cons.injEq, Value.slice.injEq, and_true] at hcs
    obtain ⟨rfl, rfl, rfl⟩ := hcs
    exact ⟨none, 0, 0, [], rfl, Nat.le_refl _, Nat.zero_le _, ⟨rfl, fun h => absurd h (by omega)⟩, (fun r hr => by simp at hr), .inl rfl⟩
  · simp only [List.cons.injEq, Value.slice.injEq, and_true] at hcs
    obtain ⟨rfl, rfl, rfl⟩ := hcs
    have hlm : len0 ≤ m := by rw [hmm]; split <;> omega
    have hex : ∀ i : Fin len0, ∃ x, ok x ∧ ∀ j u, (cells x)[j]? = some u → w.cell? (a.add (i.val * s + j)) = some u := fun i => by
      obtain ⟨cs', hc, ht'⟩ := hi i.val (by omega)
      obtain ⟨x, hx1, rfl⟩ := helem n cs' _ ht'
      obtain ⟨_, hcl, hat⟩ := World.cells?_some hc
      refine ⟨x, hx1, fun j u hu => ?_⟩
      have hj := (List.getElem?_eq_some_iff.1 hu).1
      rw [hC] at hat
      have := hat j (by rw [← hlen x]; exact hj)
      rw [hu] at this
      rw [← Go.Deep.add_add]
      exact this
    let f : Fin len0 → α := fun i => Classical.choose (hex i)
    have hfs : ∀ i, ok (f i) ∧ ∀ j u, (cells (f i))[j]? = some u → w.cell? (a.add (i.val * s + j)) = some u := fun i => Classical.choose_spec (hex i)
    refine ⟨some a, len0, cap0, List.ofFn f, rfl, hl, hm, ⟨by simp, fun h0 => ?_⟩, ?_, .inr ?_⟩
    · have h1 := (hfs ⟨0, h0⟩).2 0 ((cells (f ⟨0, h0⟩))[0]'(by rw [hlen]; exact hs)) (List.getElem?_eq_getElem _)
      have ha : a = ⟨a.block, a.off, none⟩ := by
        have h2 : a.add (0 * s + 0) = a := by simp [Addr.add]
        rw [h2] at h1
        unfold World.cell? at h1
        split at h1
        · split at h1
          · cases h1
          · rename_i hsp
            cases a with | mk b o sp => cases sp <;> simp_all
        · cases h1
      have hblk : a.block < w.heap.size := by
        have := World.block_lt_of_cell? w _ h1
        simpa [Addr.add] using this
      refine ⟨a.block, a.off, by rw [← ha], hblk, fun k x hk j u hu => ?_⟩
      have hk' := (List.getElem?_eq_some_iff.1 hk).1
      simp only [List.length_ofFn] at hk'
      have hx' : x = f ⟨k, hk'⟩ := by
        rw [List.getElem?_ofFn] at hk
        simp only [hk', dif_pos, Option.some.injEq] at hk
        exact hk.symm
      subst hx'
      have := (hfs ⟨k, hk'⟩).2 j u hu
      rw [ha, addr_add] at this
      rw [Nat.add_assoc]
      exact this
    · intro x hx
      obtain ⟨i, rfl⟩ := List.mem_ofFn.1 hx
      exact (hfs i).1
    · simp only [Prod.mk.injEq] at hx
      exact ⟨_, _, hx.1, by simp⟩

/-! ### readers of one element -/
theorem read_int {n : Nat} {cs : List Value} {y : DataW H × List MemPlace} (h : DataW.trod enc Try.prog w base spare held n 3 cs = some y) : ∃ k : Int, i64ok k ∧ cs = [.int .i64 k] := by
  obtain ⟨a, rfl, rfl, wa⟩ := DataW.trod_int Try.underlying3 h
  exact ⟨a, wf_i64ok wa, rfl⟩

theorem get_some {α : Type} {xs : List α} {i : Nat} (h : i < xs.length) : ∃ y, xs[i]? = some y := ⟨_, List.getElem?_eq_getElem h⟩

set_option maxRecDepth 100000 in
theorem read_match {n : Nat} {cs : List Value} {y : DataW H × List MemPlace} (h : DataW.trod enc Try.prog w base spare held n 103 cs = some y) :
    ∃ m : M4, m.ok ∧ cs = [.int .u16 m.src, .int .u16 m.dst, .int .u8 m.sport, .int .u8 m.dport] := by
  obtain ⟨xs, n', _, _, hlen, hxl, hf⟩ := DataW.trod_struct Try.underlying103 h
  rw [Try.cellsMatch] at hlen
  match cs, hlen with
  | [c0, c1, c2, c3], _ =>
    have h0 := hf 0 _ rfl
    have h1 := hf 1 _ rfl
    have h2 := hf 2 _ rfl
    have h3 := hf 3 _ rfl
    have z1 : Try.prog.cellsOf 101 = 1 := by kernel_rfl
    have z2 : Try.prog.cellsOf 5 = 1 := by kernel_rfl
    obtain ⟨y0, e0⟩ := get_some (xs := xs) (i := 0) (by rw [hxl]; decide)
    obtain ⟨y1, e1⟩ := get_some (xs := xs) (i := 1) (by rw [hxl]; decide)
    obtain ⟨y2, e2⟩ := get_some (xs := xs) (i := 2) (by rw [hxl]; decide)
    obtain ⟨y3, e3⟩ := get_some (xs := xs) (i := 3) (by rw [hxl]; decide)
    rw [e0] at h0
    rw [e1] at h1
    rw [e2] at h2
    rw [e3] at h3
    simp [z1, z2] at h0 h1 h2 h3
    obtain ⟨a, rfl, ha⟩ := trod_u16 h0
    obtain ⟨b, rfl, hb⟩ := trod_u16 h1
    obtain ⟨c, rfl, hc⟩ := trod_u8 h2
    obtain ⟨d, rfl, hd⟩ := trod_u8 h3
    exact ⟨⟨a, b, c, d⟩, ⟨ha, hb, hc, hd⟩, rfl⟩

theorem Try.cellsRule : Try.prog.cellsOf 105 = 5 := by kernel_rfl

set_option maxRecDepth 100000 in
theorem read_rule {n : Nat} {cs : List Value} {y : DataW H × List MemPlace} (h : DataW.trod enc Try.prog w base spare held n 105 cs = some y) : ∃ r : RuleV, r.ok ∧ cs = r.cells := by
  obtain ⟨xs, n', _, _, hlen, hxl, hf⟩ := DataW.trod_struct Try.underlying105 h
  rw [Try.cellsRule] at hlen
  match cs, hlen with
  | [c0, c1, c2, c3, c4], _ =>
    have h0 := hf 0 _ rfl
    have h1 := hf 1 _ rfl
    have z1 : Try.prog.cellsOf 4 = 1 := by kernel_rfl
    obtain ⟨y0, e0⟩ := get_some (xs := xs) (i := 0) (by rw [hxl]; decide)
    obtain ⟨y1, e1⟩ := get_some (xs := xs) (i := 1) (by rw [hxl]; decide)
    rw [e0] at h0
    rw [e1] at h1
    simp [z1, Try.cellsMatch] at h0 h1
    obtain ⟨b, hb, _⟩ := DataW.trod_bool Try.underlying4 h0
    obtain ⟨m, hm, hm2⟩ := read_match h1
    cases hb
    simp only [List.cons.injEq, and_true] at hm2
    obtain ⟨rfl, rfl, rfl, rfl⟩ := hm2
    exact ⟨⟨b, m⟩, hm, rfl⟩

set_option maxRecDepth 100000 in
theorem open_rules {v : Value} {d : DataW H} {p : List MemPlace} (hv : Value.okWide Try.prog w r b0 27 v) (h : DataW.Trod enc Try.prog w base spare held 27 v d p) :
    ∃ (A : Option Addr) (n c : Nat) (l : List RuleV), v = .slice A n c ∧ n ≤ c ∧ c ≤ maxLen ∧ RulesAt w w.heap.size A n l ∧ (n = 0 ∨ ∃ elems sp, d = .slice elems sp ∧ elems.length = n) := by
  obtain ⟨A, n, c, l, e, h1, h2, h3, h4, h5⟩ := open_elems RuleV.cells RuleV.ok 5 Try.underlying27 Try.cellsRule (by omega) RuleV.len (fun _ _ _ h => read_rule h) hv h
  exact ⟨A, n, c, l, e, h1, h2, h3.rules h4, h5⟩

set_option maxRecDepth 100000 in
theorem open_rule {v : Value} {d : DataW H} {p : List MemPlace} (hv : Value.okWide Try.prog w r b0 105 v) (h : DataW.Trod enc Try.prog w base spare held 105 v d p) : ∃ r : RuleV, r.ok ∧ v = r.val := by
  obtain ⟨cs, rfl, hsz⟩ := okWide_struct Try.underlying105 hv
  obtain ⟨fuel, hf⟩ := h
  obtain ⟨r, hr, hc⟩ := read_rule (cs := cs.toList) hf
  refine ⟨r, hr, ?_⟩
  have : cs = r.cells.toArray := by rw [← hc]
  rw [this]
  rfl
end
end Go.Proofs.Ytidikopjfpioaaa
