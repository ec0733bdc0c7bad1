/- Devices of a right net. -/
import Derived.Test.YtohbafigjpoijaaDoorPeer
set_option linter.unusedVariables false
set_option linter.unusedSimpArgs false
namespace Go.Proofs.YtohbafigjpoijaaDoor
open Go.RowKit Go.Maps

theorem devsE_all : ∀ (l pre : List Dev), devsE pre l = 0 → ∀ d ∈ l, devE d = 0
  | [], _, _, d, hd => by cases hd
  | a :: t, pre, h, d, hd => by
    unfold devsE at h
    by_cases h1 : namedB a.name = false
    · rw [if_pos h1] at h; cases h
    rw [if_neg h1] at h
    by_cases h2 : (pre.any (fun x => nameEq x.name a.name)) = true
    · rw [if_pos h2] at h; cases h
    rw [if_neg h2] at h
    by_cases h3 : devE a = 0
    · rw [if_pos h3] at h
      rcases List.mem_cons.1 hd with rfl | hd
      · exact h3
      · exact devsE_all t _ h d hd
    · rw [if_neg h3] at h; exact absurd h h3
structure DevOk (d : Dev) : Prop where
  k1 : 1 ≤ d.kind
  k5 : d.kind ≤ 5
  ar : (!(addrB d.kind && !(decide (0 ≤ d.addr) && decide (d.addr < 16))) && !(!addrB d.kind && (d.addr != 0)) && !((d.pool != 0) != (d.kind == 4))) = true
  bl : d.backs.length ≤ 3
  bb : backsB d = true
  rl : d.rules.length ≤ 8
  tc : checkF d.routes = 0
  tl : d.routes.length ≤ 8
theorem devE_ok {d : Dev} (h : devE d = 0) : DevOk d := by
  unfold devE at h
  by_cases h1 : (decide (d.kind < 1) || decide (5 < d.kind)) = true
  · rw [if_pos h1] at h; cases h
  rw [if_neg h1] at h
  by_cases h2 : ((addrB d.kind && !(decide (0 ≤ d.addr) && decide (d.addr < 16))) || (!addrB d.kind && (d.addr != 0)) || ((d.pool != 0) != (d.kind == 4))) = true
  · rw [if_pos h2] at h; cases h
  rw [if_neg h2] at h
  by_cases h3 : decide (3 < d.backs.length) = true
  · rw [if_pos h3] at h; cases h
  rw [if_neg h3] at h
  by_cases h4 : (!backsB d) = true
  · rw [if_pos h4] at h; cases h
  rw [if_neg h4] at h
  by_cases h5 : ((decide (0 < d.rules.length) && (d.kind != 2) && (d.kind != 3)) || (decide (0 < d.routes.length) && (d.kind != 2))) = true
  · rw [if_pos h5] at h; cases h
  rw [if_neg h5] at h
  by_cases h6 : decide (8 < d.rules.length) = true
  · rw [if_pos h6] at h; cases h
  rw [if_neg h6] at h
  simp only [Bool.or_eq_true, decide_eq_true_eq, not_or] at h1
  have hl : d.routes.length ≤ 8 := by
    unfold checkF at h
    by_cases h7 : 8 < d.routes.length
    · rw [if_pos h7] at h; cases h
    · omega
  refine ⟨by omega, by omega, ?_, by simpa using h3, by simpa using h4, by simpa using h6, h, hl⟩
  revert h2
  cases (addrB d.kind && !(decide (0 ≤ d.addr) && decide (d.addr < 16))) <;> cases (!addrB d.kind && (d.addr != 0)) <;> cases ((d.pool != 0) != (d.kind == 4)) <;> simp
theorem net_devs_ok {ds : List Dev} {ls : List LinkV} (h : netE ds ls = 0) : ∀ d ∈ ds, DevOk d := fun d hd => devE_ok (devsE_all ds [] (netE_ok h).de d hd)
end Go.Proofs.YtohbafigjpoijaaDoor
