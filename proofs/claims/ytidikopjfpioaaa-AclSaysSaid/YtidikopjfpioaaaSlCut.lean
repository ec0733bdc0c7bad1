/- Slices of structs, cut. -/
import Derived.Test.YtidikopjfpioaaaClone
set_option linter.unusedVariables false
set_option linter.unusedSimpArgs false
namespace Go.Proofs.Ytidikopjfpioaaa
open Go.RowKit

section
variable {α : Type} {cells : α → List Value} {s : Nat} {w w' : World} {B B' n : Nat} {A : Option Addr} {l : List α}

theorem SlAt.take (h : SlAt cells s w B A n l) {i : Nat} (hi : i ≤ n) : SlAt cells s w B A i (l.take i) :=
  ⟨by rw [List.length_take, h.1]; omega, fun h0 => by
    obtain ⟨b, o, e, hb, hg⟩ := h.2 (by omega)
    refine ⟨b, o, e, hb, fun k r hr j v hv => hg k r ?_ j v hv⟩
    have hk : k < i := by have := (List.getElem?_eq_some_iff.1 hr).1; simp at this; omega
    rwa [List.getElem?_take_of_lt hk] at hr⟩

theorem SlAt.cut (h : SlAt cells s w B A n l) {k cap : Nat} (hk : k ≤ n) (hc : n ≤ cap) : SlAt cells s w B (if cap = k then A else A.map (·.add (k * s))) (n - k) (l.drop k) :=
  ⟨by rw [List.length_drop, h.1], fun h0 => by
    obtain ⟨b, o, rfl, hb, hg⟩ := h.2 (by omega)
    rw [if_neg (by omega)]
    refine ⟨b, o + k * s, by simp [addr_add], hb, fun q r hr j v hv => ?_⟩
    rw [List.getElem?_drop] at hr
    have := hg (k + q) r hr j v hv
    rw [Nat.add_mul] at this
    rw [show o + k * s + q * s + j = o + (k * s + q * s) + j by omega]
    exact this⟩

theorem SlAt.more (h : SlAt cells s w B A n l) (hB : B ≤ B') : SlAt cells s w B' A n l :=
  ⟨h.1, fun h0 => by
    obtain ⟨b, o, e, hb, hg⟩ := h.2 h0
    exact ⟨b, o, e, by omega, hg⟩⟩
end
end Go.Proofs.Ytidikopjfpioaaa
