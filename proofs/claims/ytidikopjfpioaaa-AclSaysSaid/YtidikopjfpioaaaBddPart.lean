/- The arena's inner calls: part, done, New. -/
import Derived.Test.YtidikopjfpioaaaArena
import Derived.Outline
set_option linter.unusedVariables false
set_option linter.unusedSimpArgs false
namespace Go.Proofs.Ytidikopjfpioaaa
open Go.RowKit Go.Maps Bdd

set_option maxRecDepth 100000 in
set_option maxHeartbeats 4000000 in
theorem part_walk {w : World} {B g nb kb ib cap : Nat} {A : St} {K T : Tri → Option Value} (h : ArenaAt w B g nb kb ib cap A K T) (f v : Nat) (is : Bool) (hf : f < A.ns.length) :
    Calls Try.prog 128 #[.pointer (some ⟨g, 0, none⟩), .int .i64 f, .int .i64 v, .bool is] w fun e W' => e = .returned (.int .i64 (Bdd.part A.ns f v is)) ∧ Below w.heap.size w W' := by
  obtain ⟨n, hn⟩ := Bdd.get_of_lt hf
  obtain ⟨q0, q1, q2⟩ := h.node hn
  have c2 := h.c2
  have hlen := h.lenle
  have HP : Bdd.part A.ns f v is = if n.v ≠ v then f else if is then n.hi else n.lo := by simp only [Bdd.part, hn]
  obtain ⟨nv, nlo, nhi⟩ := n
  simp only at HP
  have HP' := hide HP
  clear HP h hn
  generalize A.ns.length = L at *
  generalize hr : Bdd.part A.ns f v is = r at *
  clear hr
  have hb0 : ∀ o, RowKit.Below w.heap.size w (w.alloc o) := fun o => (RowKit.Below.refl _ _).alloc (Nat.le_refl _) _
  by_cases e1 : nv = v
  · subst e1
    cases is
    all_goals
      go_enter Try.func128, Try.ntmps128
      go_wp2
      go_ret
      exact ⟨by rw [HP'.out]; simp, hb0 _⟩
  · have e2 : ((nv : Int) == (v : Int)) = false := by simp; omega
    go_enter Try.func128, Try.ntmps128
    go_wp2
    go_ret
    exact ⟨by rw [HP'.out, if_pos e1]; rfl, hb0 _⟩

theorem own_setCell {w : World} {base e s n : Nat} {v : Value} {xs : List Value} (h : w.ownsRow base e s v n xs) {p : Addr} (hp : ∀ k, v.ownBlock = some k → k ≠ p.block) (u : Value) : (w.setCell p u).ownsRow base e s v n xs := by
  obtain ⟨h1, h2⟩ := h
  refine ⟨h1, ?_⟩
  rcases h2 with h2 | ⟨g', cap', cur, hv, hb, hh, r⟩
  · exact .inl h2
  · subst hv
    exact .inr ⟨_, _, cur, rfl, hb, (RowKit.Below.heap_setCell _ _ _ _ (hp g' rfl)).trans hh, r⟩

/-- A store into the arena's own block: what is there behind it. -/
theorem ArenaAt.setFull {w : World} {B g nb kb ib cap : Nat} {A : St} {K T : Tri → Option Value} (h : ArenaAt w B g nb kb ib cap A K T) (b : Bool) (hi : Inv { A with full := b }) :
    ArenaAt (w.setCell ⟨g, 5, none⟩ (.bool b)) B g nb kb ib cap { A with full := b } K T := by
  obtain ⟨n1, n2, n3, _⟩ := h.nes
  have hb : ∀ k, k ≠ g → (w.setCell ⟨g, 5, none⟩ (.bool b)).heap[k]? = w.heap[k]? := fun k hk => RowKit.Below.heap_setCell _ _ _ _ hk
  have ho : ∀ o, o ≠ 5 → (w.setCell ⟨g, 5, none⟩ (.bool b)).cell? ⟨g, o, none⟩ = w.cell? ⟨g, o, none⟩ := fun o ho => World.cell?_setCell_other w _ _ _ (fun e => by simp only [Addr.mk.injEq] at e; omega)
  refine ⟨by rw [ho 0 (by omega)]; exact h.c0, by rw [ho 1 (by omega)]; exact h.c1, by rw [ho 2 (by omega)]; exact h.c2, by rw [ho 3 (by omega)]; exact h.c3, by rw [ho 4 (by omega)]; exact h.c4, ?_, fun o => by rw [World.frozen?_setCell]; exact h.fr o,
    own_setCell h.own (fun k hk => by simp [Value.ownBlock] at hk; subst hk; exact fun e => n1 e.symm) _, h.km.same (hb _ (fun e => n2 e.symm)), h.im.same (hb _ (fun e => n3 e.symm)), hi, h.vs, h.ms, h.kok, h.iok, h.ne, h.lo⟩
  exact World.cell?_setCell_same w ⟨g, 5, none⟩ (.bool b) h.c5

/-- done: what was made, if there was room. -/
def doneSt (A : St) : St := { A with full := false }

set_option maxRecDepth 100000 in
set_option maxHeartbeats 4000000 in
theorem done_walk {w : World} {B g nb kb ib cap : Nat} {A : St} {K T : Tri → Option Value} (h : ArenaAt w B g nb kb ib cap A K T) (f : Nat) :
    Calls Try.prog 124 #[.pointer (some ⟨g, 0, none⟩), .int .i64 f] w fun e W' =>
      (A.full = true → e = .returned (.tuple #[.int .i64 0, .int .i64 6])) ∧ (A.full = false → e = .returned (.tuple #[.int .i64 f, .int .i64 0])) ∧ ArenaAt W' B g nb kb ib cap (doneSt A) K T ∧ Frm (Fp g nb kb ib) w W' := by
  have c5 := h.c5
  have fr := h.fr 5
  have H := hide h
  clear h
  cases hf : A.full
  · rw [hf] at c5
    go_enter Try.func124, Try.ntmps124
    go_wp2
    go_ret2
    refine ⟨by simp, fun _ => rfl, ?_, Frm.refl _ _⟩
    have e : doneSt A = A := by cases A; simp_all [doneSt]
    rw [e]; exact H.out
  · rw [hf] at c5
    go_enter Try.func124, Try.ntmps124
    go_wp2
    go_ret2
    refine ⟨fun _ => rfl, by simp, ?_, Frm.setCell (p := ⟨g, 5, none⟩) (.inl rfl) _⟩
    exact H.out.setFull false ⟨H.out.inv.ok, H.out.inv.bound, fun h => by cases h⟩
end Go.Proofs.Ytidikopjfpioaaa
