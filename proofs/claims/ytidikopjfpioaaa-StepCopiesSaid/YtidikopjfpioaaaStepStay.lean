/- What stands in memory stays where its blocks stay: slices, devices, nets, beside a map's change or a row's. -/
import Derived.Test.YtidikopjfpioaaaStepKeys
import Derived.Test.YtidikopjfpioaaaDevs
import Derived.Test.YtidikopjfpioaaaG6
set_option linter.unusedVariables false
set_option linter.unusedSimpArgs false
namespace Go.Proofs.Ytidikopjfpioaaa
open Go.RowKit

def StayOn (p : Nat → Prop) (w w' : World) : Prop := ∀ (a : Addr) (v : Value), p a.block → w.cell? a = some v → w'.cell? a = some v

section
variable {p : Nat → Prop} {w w' w'' : World} {B B' n : Nat} {A : Option Addr}

theorem cell_lt {a : Addr} {v : Value} (h : w.cell? a = some v) : a.block < w.heap.size := by
  by_cases hl : a.block < w.heap.size
  · exact hl
  · exfalso
    have hn : w.heap[a.block]? = none := Array.getElem?_eq_none (by omega)
    simp [World.cell?, hn] at h

theorem StayOn.trans (h : StayOn p w w') (h' : StayOn p w' w'') : StayOn p w w'' := fun a v hp hv => h' a v hp (h a v hp hv)
theorem StayOn.of_below (h : Below B w w') : StayOn (fun k => k < B) w w' := fun a v hp hv => (h.cell (p := a) hp).trans hv
theorem StayOn.of_grown {row : Option Nat} (h : w.grownBy w' row) : StayOn (fun k => some k ≠ row) w w' := fun a v hp hv =>
  (World.cell?_of_block (h.block a.block (cell_lt hv) hp)).trans hv
theorem StayOn.of_turned {b : Nat} (h : w.mapTurned w' b) : StayOn (fun _ => True) w w' := fun a v _ hv => by
  by_cases e : a.block = b
  · exfalso
    obtain ⟨es, clock, es', clock', hb, _⟩ := h
    simp [World.cell?, e, hb] at hv
  · exact StayOn.of_grown h.grown a v (by simpa using e) hv
theorem StayOn.of_set (q : Addr) (u : Value) : StayOn (fun k => k ≠ q.block) w (w.setCell q u) := fun a v hp hv =>
  (World.cell?_of_block (Below.heap_setCell w q u a.block hp)).trans hv
theorem StayOn.weak {q : Nat → Prop} (h : StayOn p w w') (hq : ∀ k, q k → p k) : StayOn q w w' := fun a v hp hv => h a v (hq _ hp) hv

theorem SlAt.stay {α : Type} {cells : α → List Value} {s : Nat} {l : List α} (h : SlAt cells s w B A n l) (hs : StayOn p w w') (hp : ∀ a, A = some a → p a.block) (hB : B ≤ B') : SlAt cells s w' B' A n l :=
  ⟨h.1, fun h0 => by
    obtain ⟨b, o, e, hb, hg⟩ := h.2 h0
    exact ⟨b, o, e, by omega, fun k r hr j v hv => hs _ _ (show p b from hp _ e) (hg k r hr j v hv)⟩⟩
theorem IntsAt.stay {l : List Int} (h : IntsAt w B A n l) (hs : StayOn p w w') (hp : ∀ a, A = some a → p a.block) (hB : B ≤ B') : IntsAt w' B' A n l :=
  ⟨h.1, h.2.1, fun h0 => by
    obtain ⟨b, o, e, hb, hg⟩ := h.2.2 h0
    exact ⟨b, o, e, by omega, fun k x hx => hs _ _ (show p b from hp _ e) (hg k x hx)⟩⟩
theorem RulesAt.stay {l : List RuleV} (h : RulesAt w B A n l) (hs : StayOn p w w') (hp : ∀ a, A = some a → p a.block) (hB : B ≤ B') : RulesAt w' B' A n l :=
  (h.sl.stay hs hp hB).rules h.2.1

/-- A device's slices lie in blocks of which p holds. -/
structure DevOn (p : Nat → Prop) (d : DevV) : Prop where
  b : ∀ a, d.bA = some a → p a.block
  r : ∀ a, d.rA = some a → p a.block
  t : ∀ a, d.tA = some a → p a.block
theorem DevOn.weak {q : Nat → Prop} {d : DevV} (h : DevOn p d) (hq : ∀ k, p k → q k) : DevOn q d := ⟨fun a e => hq _ (h.b a e), fun a e => hq _ (h.r a e), fun a e => hq _ (h.t a e)⟩
theorem DevAt.stay {d : DevV} (h : DevAt w B d) (hs : StayOn p w w') (hp : DevOn p d) (hB : B ≤ B') : DevAt w' B' d :=
  ⟨h.nm, h.kd, h.ad, h.pl, h.bs.stay hs hp.b hB, h.rs.stay hs hp.r hB, h.ts.stay hs hp.t hB, h.tok, h.cb, h.cr, h.ct⟩
theorem NetAt.stay {m : NetV} (h : NetAt w B m) (hs : StayOn p w w') (hd : ∀ a, m.dA = some a → p a.block) (hl : ∀ a, m.lA = some a → p a.block) (ho : ∀ d ∈ m.ds, DevOn p d) (hB : B ≤ B') : NetAt w' B' m :=
  { ds := h.ds.stay hs hd hB, dok := fun d hm => (h.dok d hm).stay hs (ho d hm) hB, ls := h.ls.stay hs hl hB, lok := h.lok, cd := h.cd, cl := h.cl }
/-- A net stands beside a map's change. -/
theorem NetAt.turned {m : NetV} {b : Nat} (h : NetAt w B m) (ht : w.mapTurned w' b) : NetAt w' B m :=
  h.stay (StayOn.of_turned ht) (fun _ _ => trivial) (fun _ _ => trivial) (fun _ _ => ⟨fun _ _ => trivial, fun _ _ => trivial, fun _ _ => trivial⟩) (Nat.le_refl _)
end

/-! ### a map beside other changes -/
section
variable {α : Type} {P : Program} {kt : TypeId} {key : α → Value} {dom : α → Prop} {w w' : World} {b c : Nat} {M : α → Option Value}
theorem MapIs.below {B : Nat} (h : MapIs P kt key dom w b M) (hb : Below B w w') (hB : b < B) : MapIs P kt key dom w' b M := h.same (hb.block b hB)
theorem MapIs.turned (h : MapIs P kt key dom w b M) (ht : w.mapTurned w' c) (hne : b ≠ c) : MapIs P kt key dom w' b M := h.kept ht.grown (by simpa using hne)
end
end Go.Proofs.Ytidikopjfpioaaa
