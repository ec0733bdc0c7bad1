/- A net's text, plainly; what a right net's devices and links are. -/
import Derived.Test.YtohbafigjpoijaaDoorNt2
import Derived.Test.YtohbafigjpoijaaDoorDevOk
set_option linter.unusedVariables false
set_option linter.unusedSimpArgs false
set_option maxRecDepth 100000
namespace Go.Proofs.YtohbafigjpoijaaDoor
open Go.RowKit

def nameAt (ds : List Dev) (i : Int) : List UInt8 := ((ds[i.toNat]?).map (fun d => d.name.data.toList)).getD []
def linkT (ds : List Dev) (l : LinkV) : List UInt8 := [108, 105, 110, 107, 32] ++ (nameAt ds l.a ++ 32 :: (Lib.decDigits l.p.toNat ++ 32 :: (nameAt ds l.b ++ 32 :: (Lib.decDigits l.q.toNat ++ [10]))))
def netT (ds : List Dev) (ls : List LinkV) : List UInt8 := ds.flatMap devT ++ ls.flatMap (linkT ds)
/-- What Print answers. -/
def printN (ds : List Dev) (ls : List LinkV) : List UInt8 := if netE ds ls = 0 then netT ds ls else []

theorem chk_all : ∀ (l pre : List RouteV), chkF pre l = 0 → ∀ r ∈ l, routeB r.v r.b r.p = true
  | [], _, _, r, hr => by cases hr
  | a :: t, pre, h, r, hr => by
    unfold chkF at h
    by_cases h1 : routeB a.v a.b a.p = false
    · rw [if_pos h1] at h; cases h
    rw [if_neg h1] at h
    by_cases h2 : (pre.any (sameR a)) = true
    · rw [if_pos h2] at h; cases h
    rw [if_neg h2] at h
    rcases List.mem_cons.1 hr with rfl | hr
    · simpa using h1
    · exact chk_all t _ h r hr
theorem backs_all (a : Int) : ∀ (l pre : List Int), backsOk a pre l = true → ∀ x ∈ l, 0 ≤ x ∧ x < 16
  | [], _, _, x, hx => by cases hx
  | b :: t, pre, h, x, hx => by
    unfold backsOk at h
    simp only [Bool.and_eq_true, decide_eq_true_eq] at h
    rcases List.mem_cons.1 hx with rfl | hx
    · exact ⟨h.1.1.1.1, h.1.1.1.2⟩
    · exact backs_all a t _ h.2 x hx
theorem named_all : ∀ (l pre : List Dev), devsE pre l = 0 → ∀ d ∈ l, namedB d.name = true
  | [], _, _, d, hd => by cases hd
  | a :: t, pre, h, d, hd => by
    unfold devsE at h
    by_cases h1 : namedB a.name = false
    · rw [if_pos h1] at h; cases h
    rw [if_neg h1] at h
    by_cases h2 : (pre.any (fun x => nameEq x.name a.name)) = true
    · rw [if_pos h2] at h; cases h
    rw [if_neg h2] at h
    by_cases h3 : devE a = 0
    · rw [if_pos h3] at h
      rcases List.mem_cons.1 hd with rfl | hd
      · simpa using h1
      · exact named_all t _ h d hd
    · rw [if_neg h3] at h; exact absurd h h3
theorem pool_pos {p : Nat} (h : p < 256) (h0 : p ≠ 0) : 0 < (poolL p).length := by
  rcases Nat.eq_zero_or_pos (poolL p).length with e | e
  · exfalso
    have hn : poolL p = [] := List.eq_nil_of_length_eq_zero e
    refine h0 (Nat.eq_of_testBit_eq fun i => ?_)
    rw [Nat.zero_testBit]
    by_cases hi : i < 8
    · cases hb : p.testBit i with
      | false => rfl
      | true =>
        have : i ∈ poolL p := List.mem_filter.2 ⟨List.mem_range.2 hi, hb⟩
        rw [hn] at this; cases this
    · exact Nat.testBit_lt_two_pow (Nat.lt_of_lt_of_le (show p < 2 ^ 8 from h) (Nat.pow_le_pow_right (by decide) (by omega)))
  · exact e
theorem tx_ok {d : Dev} (h : DevOk d) (hn : namedB d.name = true) (hp : d.pool < 256) : TxOk d := by
  have har := h.ar
  simp only [Bool.and_eq_true, Bool.not_eq_true', Bool.and_eq_false_iff] at har
  have hbb := h.bb
  simp only [backsB, Bool.and_eq_true] at hbb
  have hk1 := h.k1
  have hk5 := h.k5
  have hchk : chkF [] d.routes = 0 := by
    have := h.tc
    unfold checkF at this
    rw [if_neg (by have := h.tl; omega)] at this
    exact this
  have hnm : d.name.size ≤ 8 := by
    simp only [namedB, Bool.and_eq_true, decide_eq_true_eq] at hn
    exact hn.2
  refine ⟨by omega, ?_, hnm, backs_all d.addr d.backs [] hbb.1, h.bl, fun h5 => ?_, fun h4 => ?_, h.rl, h.tl, fun r hr => ?_⟩
  · cases ha : addrB d.kind
    · have h2 := har.1.2
      simp [ha] at h2
      omega
    · have h1 := har.1.1
      simp [ha] at h1
      omega
  · have h2 := hbb.2
    simp [h5] at h2
    exact h2
  · have h3 := har.2
    simp [h4] at h3
    exact pool_pos hp h3
  · have := chk_all d.routes [] hchk r hr
    simp only [routeB, Bool.and_eq_true, decide_eq_true_eq] at this
    omega
structure LinkOk (ds : List Dev) (l : LinkV) : Prop where
  a : 0 ≤ l.a ∧ l.a < ds.length
  b : 0 ≤ l.b ∧ l.b < ds.length
  p : 0 ≤ l.p ∧ l.p < 100
  q : 0 ≤ l.q ∧ l.q < 100
theorem ports_4 (k : Int) : portsF k ≤ 4 := by
  unfold portsF
  repeat (first | split | omega)
theorem link_ok {ds : List Dev} {ls : List LinkV} (h : netE ds ls = 0) {l : LinkV} (hl : l ∈ ls) : LinkOk ds l := by
  have hk := netE_ok h
  have h1 := placeB_iff.1 (hk.pl l.e1 (mem_endsOf.2 ⟨l, hl, .inl rfl⟩))
  have h2 := placeB_iff.1 (hk.pl l.e2 (mem_endsOf.2 ⟨l, hl, .inr rfl⟩))
  have q1 := ports_4 (kindAt ds l.e1.1)
  have q2 := ports_4 (kindAt ds l.e2.1)
  simp only [LinkV.e1, LinkV.e2] at h1 h2 q1 q2
  exact ⟨h1.1, h2.1, by omega, by omega⟩
theorem devT_len {d : Dev} (h : TxOk d) : (devT d).length ≤ 3000 := by
  have h1 := headT_len h
  have h2 := flat_len ruleT 299 d.rules (fun x _ => ruleT_len x)
  have h3 := flat_len routeT 15 d.routes (fun x hx => by
    have := h.t x hx
    exact routeT_len this.1.2 this.2.1.2 this.2.2.2)
  have h4 := h.rl
  have h5 := h.tl
  simp only [devT, List.length_append]; omega
theorem nameAt_get {ds : List Dev} {i : Int} {d : Dev} (h : ds[i.toNat]? = some d) : nameAt ds i = d.name.data.toList := by simp [nameAt, h]
end Go.Proofs.YtohbafigjpoijaaDoor
