/- A region that draws its order, whose operations read and whose calls make memory: one walk serves every order. -/
import Derived.WalkKit
import Derived.BigQuiet
import Derived.Below
set_option linter.unusedVariables false
namespace Go.Proofs.Ytidikopjfpioaaa
open Go.RowKit

theorem wp_region_fam {P : Program} {T : Type} (g : T → World) {id : Nat} {Q : Exit → Act → World → Prop} {a : Act} {w : World} {l : List Oper} (hm : P.follows .mixedOrders = true) (hB : Region.lexB .any l.toArray = true)
    (h0 : ∃ t, { w with drawn := w.drawn + 1 } = g t) (h : wpQuiet P l.toArray (fun w' => ∃ t, w' = g t) (fun a' => ∀ w', (∃ t, w' = g t) → Q .normal a' w') l a) : (Code.region id l.toArray true).wp P Q a w :=
  wp_region_quiet (C := fun w' => ∃ t, w' = g t) hm hB h0 (by simpa using h)

/-- .. the worlds in which nothing that was there at the region's beginning has turned: g t, whatever t. -/
theorem wp_region_abs {P : Program} {id : Nat} {Q : Exit → Act → World → Prop} {a : Act} {w : World} {l : List Oper} (hm : P.follows .mixedOrders = true) (hB : Region.lexB .any l.toArray = true)
    (h : ∀ (T : Type) [Nonempty T] (g : T → World), (∀ t, Below w.heap.size w (g t)) → (∀ w', Below w.heap.size w w' → ∃ t, w' = g t) →
      wpQuiet P l.toArray (fun w' => ∃ t, w' = g t) (fun a' => ∀ w', (∃ t, w' = g t) → Q .normal a' w') l a) : (Code.region id l.toArray true).wp P Q a w :=
  wp_region_fam (T := { w' : World // Below w.heap.size w w' }) Subtype.val hm hB ⟨⟨w.drew, (Below.refl _ _).drew⟩, rfl⟩ (@h { w' : World // Below w.heap.size w w' } ⟨⟨w, Below.refl _ _⟩⟩ Subtype.val Subtype.property (fun w' hw => ⟨⟨w', hw⟩, rfl⟩))

/-- A contract that leaves all that was, met in such a world. -/
theorem inAbs {P : Program} {f : FuncId} {args : Array Value} {W : World} {T : Type} {g : T → World} (hg : ∀ t, Below W.heap.size W (g t)) (hgi : ∀ w', Below W.heap.size W w' → ∃ t, w' = g t) {t : T} {v : Value}
    (h : Calls P f args (g t) fun e w' => e = .returned v ∧ Below (g t).heap.size (g t) w') : Calls P f args (g t) fun e w'' => e = .returned v ∧ ∃ s, w'' = g s :=
  h.mono fun _ w' ⟨he, hw⟩ => ⟨he, hgi w' ((hg t).trans (hw.mono (hg t).size))⟩

theorem inAbsSame {P : Program} {f : FuncId} {args : Array Value} {T : Type} {g : T → World} {t : T} {v : Value} (h : Calls P f args (g t) fun e w' => e = .returned v ∧ g t = w') :
    Calls P f args (g t) fun e w'' => e = .returned v ∧ ∃ s, w'' = g s :=
  h.mono fun _ w' ⟨he, hw⟩ => ⟨he, ⟨t, hw.symm⟩⟩

theorem hide {p : Prop} (h : p) : Hid p := h

theorem bcell {W w1 : World} (hb : Below W.heap.size W w1) : (∀ b o, b < W.heap.size → w1.cell? ⟨b, o, none⟩ = W.cell? ⟨b, o, none⟩) ∧ (∀ b o, b < W.heap.size → w1.frozen? ⟨b, o, none⟩ = W.frozen? ⟨b, o, none⟩) :=
  ⟨fun b o h => hb.cell (p := ⟨b, o, none⟩) h, fun b o h => hb.frozen (p := ⟨b, o, none⟩) h⟩
end Go.Proofs.Ytidikopjfpioaaa
