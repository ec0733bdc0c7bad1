/- G2: BddPure BddStep MapIs ArenaKeys Arena BddPart BddMade BddIte BddNew BddAsk BddOps. -/
import Derived.Maps.OwnOps
import Derived.Maps.OwnSet
import Derived.Maps.Ext
import Derived.Below
import Derived.DeepKeys5
import Derived.WalkKit
import Derived.Test.YtohbafigjpoijaaDoorG1
import Derived.Outline
import Derived.Deep.RegionLaw
import Derived.StillTailTactics
import Derived.WalkLawsBesides
import Derived.Laws.OwnMore
/- Decision diagrams as lists of nodes: what a node's number means, and that two numbers mean the same just if they are the same. No program in sight. -/
namespace Go.Proofs.YtohbafigjpoijaaDoor.Bdd

abbrev Asg := Nat → Bool
abbrev Fn := Asg → Bool

structure Node where
  v : Nat
  lo : Nat
  hi : Nat

theorem Node.ext' {a b : Node} (h1 : a.v = b.v) (h2 : a.lo = b.lo) (h3 : a.hi = b.hi) : a = b := by
  cases a; cases b; simp_all

def denN (ns : List Node) : Nat → Nat → Fn
  | 0, _ => fun _ => false
  | k + 1, f => fun x => if f = 0 then false else if f = 1 then true else
      match ns[f]? with
      | none => false
      | some n => if x n.v then denN ns k n.hi x else denN ns k n.lo x

def den (ns : List Node) (f : Nat) : Fn := denN ns (f + 1) f

def var (ns : List Node) (f : Nat) : Nat :=
  match ns[f]? with
  | some n => n.v
  | none => 0

theorem var_some {ns : List Node} {f : Nat} {n : Node} (h : ns[f]? = some n) : var ns f = n.v := by
  simp [var, h]

structure Ok (vars : Nat) (ns : List Node) : Prop where
  two : 2 ≤ ns.length
  zero : ns[0]? = some ⟨vars, 0, 0⟩
  one : ns[1]? = some ⟨vars, 0, 0⟩
  node : ∀ (i : Nat) (n : Node), ns[i]? = some n → 2 ≤ i → n.v < vars ∧ n.lo < i ∧ n.hi < i ∧ n.lo ≠ n.hi ∧ n.v < var ns n.lo ∧ n.v < var ns n.hi
  inj : ∀ (i j : Nat) (n : Node), 2 ≤ i → 2 ≤ j → ns[i]? = some n → ns[j]? = some n → i = j

section
variable {vars : Nat} {ns : List Node}

theorem get_lt {f : Nat} {n : Node} (h : ns[f]? = some n) : f < ns.length := by
  rcases Nat.lt_or_ge f ns.length with h1 | h1
  · exact h1
  · rw [List.getElem?_eq_none h1] at h; cases h

theorem get_of_lt {f : Nat} (h : f < ns.length) : ∃ n, ns[f]? = some n := ⟨ns[f], List.getElem?_eq_getElem h⟩

theorem den_zero : den ns 0 = fun _ => false := by
  funext x; simp [den, denN]

theorem den_one : den ns 1 = fun _ => true := by
  funext x; simp [den, denN]

theorem denN_stable (ok : Ok vars ns) : ∀ (k f : Nat), f < k → f < ns.length → denN ns k f = denN ns (f + 1) f := by
  intro k
  induction k using Nat.strongRecOn with
  | ind k ih =>
    intro f hk hf
    match k, hk with
    | k + 1, hk =>
      funext x
      obtain ⟨n, hn⟩ := get_of_lt hf
      by_cases h0 : f = 0
      · subst h0; simp [denN]
      by_cases h1 : f = 1
      · subst h1; simp [denN]
      have hb := ok.node f n hn (by omega)
      have e1 := ih k (by omega) n.hi (by omega) (by omega)
      have e2 := ih k (by omega) n.lo (by omega) (by omega)
      have e3 := ih f (by omega) n.hi (by omega) (by omega)
      have e4 := ih f (by omega) n.lo (by omega) (by omega)
      simp only [denN, h0, h1, hn, if_false]
      rw [e1, e2, e3, e4]

theorem den_node (ok : Ok vars ns) {f : Nat} {n : Node} (hn : ns[f]? = some n) (h2 : 2 ≤ f) (x : Asg) :
    den ns f x = if x n.v then den ns n.hi x else den ns n.lo x := by
  have hf := get_lt hn
  have hb := ok.node f n hn h2
  have e3 := denN_stable ok f n.hi (by omega) (by omega)
  have e4 := denN_stable ok f n.lo (by omega) (by omega)
  have h0 : f ≠ 0 := by omega
  have h1 : f ≠ 1 := by omega
  show denN ns (f + 1) f x = _
  simp only [denN, h0, h1, hn, if_false]
  rw [e3, e4]
  rfl

theorem var_zero (ok : Ok vars ns) : var ns 0 = vars := var_some ok.zero
theorem var_one (ok : Ok vars ns) : var ns 1 = vars := var_some ok.one

theorem var_le (ok : Ok vars ns) {f : Nat} (hf : f < ns.length) : var ns f ≤ vars := by
  obtain ⟨n, hn⟩ := get_of_lt hf
  rw [var_some hn]
  by_cases h2 : 2 ≤ f
  · exact Nat.le_of_lt (ok.node f n hn h2).1
  · have : f = 0 ∨ f = 1 := by omega
    rcases this with rfl | rfl
    · have := ok.zero; rw [hn] at this; cases this; exact Nat.le_refl _
    · have := ok.one; rw [hn] at this; cases this; exact Nat.le_refl _

theorem var_lt_iff (ok : Ok vars ns) {f : Nat} (hf : f < ns.length) : var ns f < vars ↔ 2 ≤ f := by
  obtain ⟨n, hn⟩ := get_of_lt hf
  constructor
  · intro h
    by_cases h2 : 2 ≤ f
    · exact h2
    · have : f = 0 ∨ f = 1 := by omega
      rcases this with rfl | rfl
      · rw [var_zero ok] at h; omega
      · rw [var_one ok] at h; omega
  · intro h2
    rw [var_some hn]; exact (ok.node f n hn h2).1

/-- A function hangs on no variable ahead of its own. -/
theorem indep (ok : Ok vars ns) : ∀ (f : Nat), f < ns.length → ∀ x y : Asg, (∀ u, var ns f ≤ u → x u = y u) → den ns f x = den ns f y := by
  intro f
  induction f using Nat.strongRecOn with
  | ind f ih =>
    intro hf x y hxy
    by_cases h0 : f = 0
    · subst h0; simp [den_zero]
    by_cases h1 : f = 1
    · subst h1; simp [den_one]
    obtain ⟨n, hn⟩ := get_of_lt hf
    have hb := ok.node f n hn (by omega)
    have hv : var ns f = n.v := var_some hn
    rw [den_node ok hn (by omega), den_node ok hn (by omega), hxy n.v (by omega),
      ih n.hi (by omega) (by omega) x y (fun u hu => hxy u (by omega)), ih n.lo (by omega) (by omega) x y (fun u hu => hxy u (by omega))]

def upd (x : Asg) (v : Nat) (b : Bool) : Asg := fun u => if u = v then b else x u

theorem upd_same (x : Asg) (v : Nat) (b : Bool) : upd x v b v = b := by simp [upd]
theorem upd_other (x : Asg) {u v : Nat} (b : Bool) (h : u ≠ v) : upd x v b u = x u := by simp [upd, h]

/-- What a node's function is with its variable false, or true. -/
theorem den_hi (ok : Ok vars ns) {f : Nat} {n : Node} (hn : ns[f]? = some n) (h2 : 2 ≤ f) (x : Asg) : den ns f (upd x n.v true) = den ns n.hi x := by
  have hf := get_lt hn
  have hb := ok.node f n hn h2
  rw [den_node ok hn h2, upd_same, if_pos rfl]
  exact indep ok n.hi (by omega) _ _ (fun u hu => upd_other _ _ (by omega))

theorem den_lo (ok : Ok vars ns) {f : Nat} {n : Node} (hn : ns[f]? = some n) (h2 : 2 ≤ f) (x : Asg) : den ns f (upd x n.v false) = den ns n.lo x := by
  have hf := get_lt hn
  have hb := ok.node f n hn h2
  rw [den_node ok hn h2, upd_same, if_neg (by simp)]
  exact indep ok n.lo (by omega) _ _ (fun u hu => upd_other _ _ (by omega))

theorem canon_aux (ok : Ok vars ns) : ∀ (k f g : Nat), f < k → g < k → f < ns.length → g < ns.length → den ns f = den ns g → f = g := by
  intro k
  induction k with
  | zero => intro f g h; omega
  | succ k ih =>
    -- where the first one's variable is ahead of the other's: it would not hang on it
    have main : ∀ f g, f < k + 1 → f < ns.length → g < ns.length → den ns f = den ns g → ¬ var ns f < var ns g := by
      intro f g hfk hf hg he hlt
      have h2 : 2 ≤ f := (var_lt_iff ok hf).1 (Nat.lt_of_lt_of_le hlt (var_le ok hg))
      obtain ⟨n, hn⟩ := get_of_lt hf
      have hb := ok.node f n hn h2
      have hv : var ns f = n.v := var_some hn
      refine hb.2.2.2.1 (ih n.lo n.hi (by omega) (by omega) (by omega) (by omega) ?_)
      funext x
      rw [← den_lo ok hn h2, ← den_hi ok hn h2, he]
      exact indep ok g hg _ _ (fun u hu => by rw [upd_other _ _ (by omega), upd_other _ _ (by omega)])
    intro f g hfk hgk hf hg he
    have hv : var ns f = var ns g := by
      have h1 := main f g hfk hf hg he
      have h2 := main g f hgk hg hf he.symm
      omega
    by_cases h2 : 2 ≤ f
    · have hg2 : 2 ≤ g := by
        have := (var_lt_iff ok hf).2 h2
        exact (var_lt_iff ok hg).1 (by omega)
      obtain ⟨n, hn⟩ := get_of_lt hf
      obtain ⟨m, hm⟩ := get_of_lt hg
      have hb := ok.node f n hn h2
      have hc := ok.node g m hm hg2
      have e : n.v = m.v := by rw [← var_some hn, ← var_some hm]; exact hv
      have e1 : n.lo = m.lo := ih n.lo m.lo (by omega) (by omega) (by omega) (by omega) (by
        funext x; rw [← den_lo ok hn h2, ← den_lo ok hm hg2, he, e])
      have e2 : n.hi = m.hi := ih n.hi m.hi (by omega) (by omega) (by omega) (by omega) (by
        funext x; rw [← den_hi ok hn h2, ← den_hi ok hm hg2, he, e])
      have enm : n = m := Node.ext' e e1 e2
      subst enm
      exact ok.inj f g n h2 hg2 hn hm
    · have hg2 : ¬ 2 ≤ g := by
        intro hg2
        have := (var_lt_iff ok hg).2 hg2
        exact h2 ((var_lt_iff ok hf).1 (by omega))
      have hne : den ns 0 ≠ den ns 1 := by
        rw [den_zero, den_one]; intro h; have := congrFun h (fun _ => false); cases this
      have hf' : f = 0 ∨ f = 1 := by omega
      have hg' : g = 0 ∨ g = 1 := by omega
      rcases hf' with rfl | rfl <;> rcases hg' with rfl | rfl
      · rfl
      · exact absurd he hne
      · exact absurd he.symm hne
      · rfl

/-- BRYANT: two functions are the same just if their numbers are. -/
theorem canon (ok : Ok vars ns) {f g : Nat} (hf : f < ns.length) (hg : g < ns.length) : den ns f = den ns g ↔ f = g :=
  ⟨fun h => canon_aux ok (max f g + 1) f g (by omega) (by omega) hf hg h, fun h => by rw [h]⟩

/-- If a function hangs on no variable ahead of k, its node stands at k or behind it. -/
theorem var_ge (ok : Ok vars ns) {f k : Nat} (hf : f < ns.length) (hk : k ≤ vars) (h : ∀ x y : Asg, (∀ u, k ≤ u → x u = y u) → den ns f x = den ns f y) : k ≤ var ns f := by
  rcases Nat.lt_or_ge (var ns f) k with hlt | hge
  · exfalso
    have h2 : 2 ≤ f := (var_lt_iff ok hf).1 (by omega)
    obtain ⟨n, hn⟩ := get_of_lt hf
    have hb := ok.node f n hn h2
    have hv : var ns f = n.v := var_some hn
    refine hb.2.2.2.1 ((canon ok (by omega) (by omega)).1 ?_)
    funext x
    rw [← den_lo ok hn h2, ← den_hi ok hn h2]
    exact h _ _ (fun u hu => by rw [upd_other _ _ (by omega), upd_other _ _ (by omega)])
  · exact hge

/-! ### more nodes behind -/
theorem get_append {f : Nat} (more : List Node) (hf : f < ns.length) : (ns ++ more)[f]? = ns[f]? := List.getElem?_append_left hf

theorem var_append {f : Nat} (more : List Node) (hf : f < ns.length) : var (ns ++ more) f = var ns f := by
  simp only [var, get_append more hf]

theorem denN_append (ok : Ok vars ns) (more : List Node) : ∀ (k f : Nat), f < ns.length → denN (ns ++ more) k f = denN ns k f := by
  intro k
  induction k with
  | zero => intro f _; rfl
  | succ k ih =>
    intro f hf
    funext x
    by_cases h0 : f = 0
    · subst h0; simp [denN]
    by_cases h1 : f = 1
    · subst h1; simp [denN]
    obtain ⟨n, hn⟩ := get_of_lt hf
    have hb := ok.node f n hn (by omega)
    simp only [denN, h0, h1, get_append more hf, hn, if_false]
    rw [ih n.hi (by omega), ih n.lo (by omega)]

theorem den_append (ok : Ok vars ns) (more : List Node) {f : Nat} (hf : f < ns.length) : den (ns ++ more) f = den ns f :=
  denN_append ok more (f + 1) f hf

/-- A node that isn't there, put behind. -/
theorem Ok.push (ok : Ok vars ns) {n : Node} (hv : n.v < vars) (hlo : n.lo < ns.length) (hhi : n.hi < ns.length) (hne : n.lo ≠ n.hi) (h1 : n.v < var ns n.lo) (h2 : n.v < var ns n.hi)
    (hnew : ∀ i, 2 ≤ i → ns[i]? ≠ some n) : Ok vars (ns ++ [n]) := by
  have h2l := ok.two
  have old : ∀ i m, (ns ++ [n])[i]? = some m → (i < ns.length ∧ ns[i]? = some m) ∨ (i = ns.length ∧ m = n) := by
    intro i m hm
    rcases Nat.lt_or_ge i ns.length with hi | hi
    · rw [get_append _ hi] at hm; exact .inl ⟨hi, hm⟩
    · right
      have hlt := get_lt hm
      simp at hlt
      have : i = ns.length := by omega
      subst this
      simp at hm
      exact ⟨rfl, hm.symm⟩
  refine ⟨by simp; omega, by rw [get_append _ (by omega)]; exact ok.zero, by rw [get_append _ (by omega)]; exact ok.one, ?_, ?_⟩
  · intro i m hm hi
    rcases old i m hm with ⟨hl, hm'⟩ | ⟨rfl, rfl⟩
    · have hb := ok.node i m hm' hi
      rw [var_append _ (by omega), var_append _ (by omega)]
      exact hb
    · rw [var_append _ hlo, var_append _ hhi]
      exact ⟨hv, hlo, hhi, hne, h1, h2⟩
  · intro i j m hi hj him hjm
    rcases old i m him with ⟨hl, hm'⟩ | ⟨rfl, rfl⟩ <;> rcases old j m hjm with ⟨hl2, hm2⟩ | ⟨rfl, e⟩
    · exact ok.inj i j m hi hj hm' hm2
    · exact absurd (e ▸ hm') (hnew i hi)
    · exact absurd hm2 (hnew j hj)
    · rfl

theorem get_push (n : Node) : (ns ++ [n])[ns.length]? = some n := by simp

/-! ### how many nodes: those that were made are parts of what was asked for -/
/-- A part of F: the variables ahead of k put to something. -/
def Cof (F G : Fn) : Prop := ∃ (k : Nat) (s : Asg), G = fun x => F (fun u => if u < k then s u else x u)

theorem Cof.self (F : Fn) : Cof F F := ⟨0, fun _ => false, by funext x; simp⟩

theorem Cof.trans {F G K : Fn} (h : Cof F G) (h' : Cof G K) : Cof F K := by
  obtain ⟨k, s, rfl⟩ := h
  obtain ⟨k', s', rfl⟩ := h'
  refine ⟨max k k', fun u => if u < k then s u else s' u, ?_⟩
  funext x
  refine congrArg F ?_
  funext u
  by_cases h1 : u < k <;> by_cases h2 : u < k' <;> simp [h1, h2] <;> omega

/-- With a variable ahead of which F hangs on nothing put to something. -/
theorem Cof.upd {F : Fn} {v : Nat} (h : ∀ x y : Asg, (∀ u, v ≤ u → x u = y u) → F x = F y) (b : Bool) : Cof F (fun x => F (upd x v b)) := by
  refine ⟨v + 1, fun _ => b, ?_⟩
  funext x
  refine h _ _ (fun u hu => ?_)
  by_cases e : u = v
  · subst e; simp [Bdd.upd]
  · simp [Bdd.upd, e]; omega

theorem length_le_of_subset {α : Type} : ∀ (l L : List α), l.Nodup → (∀ a ∈ l, a ∈ L) → l.length ≤ L.length := by
  intro l
  induction l with
  | nil => intro L _ _; simp
  | cons a l ih =>
    intro L hn hs
    have ha : a ∈ L := hs a (by simp)
    obtain ⟨s, t, rfl⟩ := List.append_of_mem ha
    have hn' := List.nodup_cons.1 hn
    have := ih (s ++ t) hn'.2 (fun b hb => by
      have hb' := hs b (by simp [hb])
      have hne : b ≠ a := fun e => hn'.1 (e ▸ hb)
      simp only [List.mem_append, List.mem_cons] at hb' ⊢
      rcases hb' with h | h | h
      · exact .inl h
      · exact absurd h hne
      · exact .inr h)
    simp only [List.length_append, List.length_cons] at this ⊢
    omega

end
end Go.Proofs.YtohbafigjpoijaaDoor.Bdd

/- What the calls of an arena do to its nodes, by what they mean; how many nodes they can make. No program in sight. -/
set_option linter.unusedVariables false
namespace Go.Proofs.YtohbafigjpoijaaDoor.Bdd

/-! ### counting -/
def boolLists : Nat → List (List Bool)
  | 0 => [[]]
  | n + 1 => (boolLists n).flatMap fun l => [l ++ [false], l ++ [true]]

theorem boolLists_length (n : Nat) : (boolLists n).length = 2 ^ n := by
  induction n with
  | zero => rfl
  | succ n ih =>
    have h : ∀ L : List (List Bool), (L.flatMap fun l => [l ++ [false], l ++ [true]]).length = 2 * L.length := by
      intro L
      induction L with
      | nil => rfl
      | cons a L ih => simp only [List.flatMap_cons, List.length_append, List.length_cons, List.length_nil, ih]; omega
    simp only [boolLists, h, ih, Nat.pow_succ]; omega

theorem mem_boolLists : ∀ (n : Nat) (s : Asg), (List.range n).map s ∈ boolLists n := by
  intro n s
  induction n with
  | zero => simp [boolLists]
  | succ n ih =>
    rw [List.range_succ, List.map_append]
    simp only [boolLists, List.mem_flatMap]
    refine ⟨_, ih, ?_⟩
    cases h : s n <;> simp [h]

def partsAt (F : Fn) (j : Nat) : List Fn := (boolLists j).map fun l => fun x => F (fun u => if u < j then l.getD u false else x u)
def partsOf (F : Fn) : Nat → List Fn
  | 0 => []
  | K + 1 => partsOf F K ++ partsAt F K

theorem partsOf_length (F : Fn) (K : Nat) : (partsOf F K).length + 1 = 2 ^ K := by
  induction K with
  | zero => rfl
  | succ K ih =>
    simp only [partsOf, partsAt, List.length_append, List.length_map, boolLists_length, Nat.pow_succ]
    omega

theorem mem_partsOf (F : Fn) (s : Asg) : ∀ (K j : Nat), j < K → (fun x => F (fun u => if u < j then s u else x u)) ∈ partsOf F K := by
  intro K
  induction K with
  | zero => intro j h; omega
  | succ K ih =>
    intro j hj
    simp only [partsOf, List.mem_append]
    rcases Nat.lt_or_ge j K with h | h
    · exact .inl (ih j h)
    · right
      have : j = K := by omega
      subst this
      refine List.mem_map.2 ⟨_, mem_boolLists j s, ?_⟩
      funext x
      congr 1
      funext u
      by_cases hu : u < j <;> simp [hu]

/-- F hangs on no variable from K on. -/
def Below (K : Nat) (F : Fn) : Prop := ∀ x y : Asg, (∀ u, u < K → x u = y u) → F x = F y

theorem Below.mono {K K' : Nat} {F : Fn} (h : Below K F) (hk : K ≤ K') : Below K' F := fun x y hxy => h x y fun u hu => hxy u (by omega)
theorem Below.const (b : Bool) (K : Nat) : Below K (fun _ => b) := fun _ _ _ => rfl

theorem cof_mem {F G : Fn} {K : Nat} (hF : Below K F) (h : Cof F G) (hG : ∃ x y, G x ≠ G y) : G ∈ partsOf F K := by
  obtain ⟨k, s, rfl⟩ := h
  rcases Nat.lt_or_ge k K with hk | hk
  · exact mem_partsOf F s K k hk
  · obtain ⟨x, y, hxy⟩ := hG
    refine absurd (hF _ _ fun u hu => ?_) hxy
    have : u < k := by omega
    simp [this]

section
variable {vars : Nat} {ns : List Node}

theorem nonconst (ok : Ok vars ns) {f : Nat} (hf : f < ns.length) (h2 : 2 ≤ f) : ∃ x y, den ns f x ≠ den ns f y := by
  refine Classical.byContradiction fun h => ?_
  have hc : ∀ x y, den ns f x = den ns f y := fun x y => Classical.byContradiction fun hne => h ⟨x, y, hne⟩
  have := var_ge ok hf (Nat.le_refl vars) (fun x y _ => hc x y)
  have := (var_lt_iff ok hf).2 h2
  omega

/-- As many new nodes as there are functions that they may be. -/
theorem count_new {more : List Node} (ok : Ok vars ns) (ok' : Ok vars (ns ++ more)) (L : List Fn) (h : ∀ j, ns.length ≤ j → j < (ns ++ more).length → den (ns ++ more) j ∈ L) : more.length ≤ L.length := by
  have := length_le_of_subset ((List.range more.length).map fun i => den (ns ++ more) (ns.length + i)) L ?_ ?_
  · simpa using this
  · rw [List.nodup_iff_pairwise_ne, List.pairwise_map]
    refine List.Pairwise.imp_of_mem ?_ (List.nodup_iff_pairwise_ne.1 List.nodup_range)
    intro a b ha hb hab he
    simp only [List.mem_range] at ha hb
    have := (canon ok' (by simp; omega) (by simp; omega)).1 he
    omega
  · intro a ha
    obtain ⟨i, hi, rfl⟩ := List.mem_map.1 ha
    simp only [List.mem_range] at hi
    exact h _ (by omega) (by simp; omega)

theorem count_cof {more : List Node} (ok : Ok vars ns) (ok' : Ok vars (ns ++ more)) {F : Fn} {K : Nat} (hF : Below K F) (h : ∀ j, ns.length ≤ j → j < (ns ++ more).length → Cof F (den (ns ++ more) j)) : more.length < 2 ^ K := by
  have := count_new ok ok' (partsOf F K) (fun j h1 h2 => cof_mem hF (h j h1 h2) (nonconst ok' h2 (by have := ok.two; omega)))
  have := partsOf_length F K
  omega
end

/-! ### the arena's states -/
structure St where
  vars : Nat
  most : Nat
  ns : List Node
  full : Bool

abbrev St.len (A : St) : Nat := A.ns.length

structure Inv (A : St) : Prop where
  ok : Ok A.vars A.ns
  bound : A.len ≤ A.most
  full : A.full = true → A.len = A.most

structure Ext (A A' : St) : Prop where
  vars : A'.vars = A.vars
  most : A'.most = A.most
  ns : ∃ more, A'.ns = A.ns ++ more
  full : A.full = true → A'.full = true
  inv : Inv A'

theorem Ext.refl {A : St} (h : Inv A) : Ext A A := ⟨rfl, rfl, ⟨[], by simp⟩, id, h⟩
theorem Ext.trans {A B C : St} (h : Ext A B) (k : Ext B C) : Ext A C := by
  obtain ⟨m1, e1⟩ := h.ns
  obtain ⟨m2, e2⟩ := k.ns
  exact ⟨k.vars.trans h.vars, k.most.trans h.most, ⟨m1 ++ m2, by rw [e2, e1, List.append_assoc]⟩, fun hf => k.full (h.full hf), k.inv⟩
theorem Ext.len {A A' : St} (h : Ext A A') : A.len ≤ A'.len := by
  obtain ⟨m, e⟩ := h.ns
  simp [St.len, e]
theorem Ext.den {A A' : St} (h : Ext A A') (i : Inv A) {f : Nat} (hf : f < A.len) : den A'.ns f = den A.ns f := by
  obtain ⟨m, e⟩ := h.ns
  rw [e]; exact den_append i.ok m hf
theorem Ext.var {A A' : St} (h : Ext A A') {f : Nat} (hf : f < A.len) : var A'.ns f = var A.ns f := by
  obtain ⟨m, e⟩ := h.ns
  rw [e]; exact var_append m hf
theorem Ext.get {A A' : St} (h : Ext A A') {f : Nat} (hf : f < A.len) : A'.ns[f]? = A.ns[f]? := by
  obtain ⟨m, e⟩ := h.ns
  rw [e]; exact get_append m hf
theorem Ext.notFull {A A' : St} (h : Ext A A') (hf : A'.full = false) : A.full = false := by
  cases e : A.full
  · rfl
  · rw [h.full e] at hf; cases hf

def iteF (F G H : Fn) : Fn := fun x => if F x then G x else H x

/-- What a call tells: number r in the state A' behind it; F: what it means, if there was room; from variable k on. -/
structure Res (A A' : St) (r : Nat) (F : Fn) (k : Nat) : Prop where
  ext : Ext A A'
  lt : r < A'.len
  ge : k ≤ var A'.ns r
  eq : A'.full = false → den A'.ns r = F
  new : ∀ j, A.len ≤ j → j < A'.len → Cof F (den A'.ns j)

/-- made: P4's nodes, each once. -/
inductive Made (A : St) (v lo hi : Nat) : Nat → St → Prop
  | same : lo = hi → Made A v lo hi lo A
  | there (r : Nat) : lo ≠ hi → 2 ≤ r → A.ns[r]? = some ⟨v, lo, hi⟩ → Made A v lo hi r A
  | full : lo ≠ hi → (∀ i, 2 ≤ i → A.ns[i]? ≠ some ⟨v, lo, hi⟩) → A.most ≤ A.len → Made A v lo hi 0 { A with full := true }
  | new : lo ≠ hi → (∀ i, 2 ≤ i → A.ns[i]? ≠ some ⟨v, lo, hi⟩) → A.len < A.most → Made A v lo hi A.len { A with ns := A.ns ++ [⟨v, lo, hi⟩] }

def nodeF (v : Nat) (L H : Fn) : Fn := fun x => if x v then H x else L x

theorem Made.ext {A A' : St} {v lo hi r : Nat} (i : Inv A) (h : Made A v lo hi r A') (hv : v < A.vars) (hlo : lo < A.len) (hhi : hi < A.len) (h1 : v < var A.ns lo) (h2 : v < var A.ns hi) : Ext A A' := by
  cases h with
  | same e => exact Ext.refl i
  | there r h0 hr hn => exact Ext.refl i
  | full h0 hn hm => exact ⟨rfl, rfl, ⟨[], by simp⟩, fun _ => rfl, ⟨i.ok, i.bound, fun _ => Nat.le_antisymm i.bound hm⟩⟩
  | new h0 hn hm =>
    refine ⟨rfl, rfl, ⟨_, rfl⟩, id, ⟨i.ok.push hv hlo hhi h0 h1 h2 hn, by simp only [St.len, List.length_append, List.length_cons, List.length_nil] at hm ⊢; omega, fun hf => ?_⟩⟩
    have := i.full hf
    omega

theorem Made.lt {A A' : St} {v lo hi r : Nat} (i : Inv A) (h : Made A v lo hi r A') (hlo : lo < A.len) : r < A'.len := by
  have := i.ok.two
  cases h with
  | same e => exact hlo
  | there r h0 hr hn => exact get_lt hn
  | full h0 hn hm => simp only [St.len] at *; omega
  | new h0 hn hm => simp [St.len]

theorem Made.ge {A A' : St} {v lo hi r : Nat} (i : Inv A) (h : Made A v lo hi r A') (hv : v < A.vars) (h1 : v < var A.ns lo) : v ≤ var A'.ns r := by
  cases h with
  | same e => omega
  | there r h0 hr hn => rw [var_some hn]; exact Nat.le_refl _
  | full h0 hn hm => show v ≤ var A.ns 0; rw [var_zero i.ok]; omega
  | new h0 hn hm => rw [var_some (get_push (ns := A.ns) ⟨v, lo, hi⟩)]; exact Nat.le_refl _

theorem Made.eq {A A' : St} {v lo hi r : Nat} (i : Inv A) (h : Made A v lo hi r A') (hv : v < A.vars) (hlo : lo < A.len) (hhi : hi < A.len) (h1 : v < var A.ns lo) (h2 : v < var A.ns hi) (hf : A'.full = false) :
    den A'.ns r = nodeF v (den A.ns lo) (den A.ns hi) := by
  have he := h.ext i hv hlo hhi h1 h2
  cases h with
  | same e => subst e; funext x; simp [nodeF]
  | there r h0 hr hn => funext x; rw [den_node i.ok hn hr]; rfl
  | full h0 hn hm => cases hf
  | new h0 hn hm =>
    funext x
    rw [den_node he.inv.ok (get_push (ns := A.ns) ⟨v, lo, hi⟩) i.ok.two]
    have e1 := he.den i hlo
    have e2 := he.den i hhi
    simp only at e1 e2
    simp only [e1, e2, nodeF]

/-- What is new is the node itself. -/
theorem Made.newIs {A A' : St} {v lo hi r : Nat} (h : Made A v lo hi r A') {j : Nat} (h1 : A.len ≤ j) (h2 : j < A'.len) : j = r ∧ A'.full = A.full := by
  cases h with
  | same e => omega
  | there r h0 hr hn => omega
  | full h0 hn hm => simp only [St.len] at *; omega
  | new h0 hn hm => simp [St.len] at *; omega

theorem Made.notFull {A A' : St} {v lo hi r : Nat} (i : Inv A) (h : Made A v lo hi r A') (hf : A.full = true) : A.len = A'.len := by
  have := i.full hf
  cases h with
  | same e => rfl
  | there r h0 hr hn => rfl
  | full h0 hn hm => rfl
  | new h0 hn hm => omega

/-- A node out of what it is with its variable false, and true. -/
theorem res_node {A A1 A2 A3 : St} {lo hi r v : Nat} {F L H : Fn} (i : Inv A) (hv : v < A.vars) (hF : ∀ x y : Asg, (∀ u, v ≤ u → x u = y u) → F x = F y)
    (hL : L = fun x => F (upd x v false)) (hH : H = fun x => F (upd x v true))
    (r1 : Res A A1 lo L (v + 1)) (r2 : Res A1 A2 hi H (v + 1)) (m : Made A2 v lo hi r A3) : Res A A3 r F v := by
  have i1 := r1.ext.inv
  have i2 := r2.ext.inv
  have ev1 := r1.ext.vars
  have ev2 := r2.ext.vars
  have l1 := r1.lt
  have l2 := r2.lt
  have l12 := r2.ext.len
  have l01 := r1.ext.len
  have g1 := r1.ge
  have g2 := r2.ge
  have gl : var A2.ns lo = var A1.ns lo := r2.ext.var l1
  have h1 : v < var A2.ns lo := by omega
  have h2 : v < var A2.ns hi := by omega
  have hlo : lo < A2.len := by omega
  have e3 := m.ext i2 (by omega) hlo l2 h1 h2
  have fin : A3.full = false → den A3.ns r = F := by
    intro hf
    rw [m.eq i2 (by omega) hlo l2 h1 h2 hf, r2.ext.den i1 l1, r1.eq (r2.ext.notFull (e3.notFull hf)), r2.eq (e3.notFull hf)]
    funext x
    subst hL hH
    have hx : ∀ b, x v = b → upd x v b = x := by
      intro b hb; funext u; by_cases e : u = v
      · subst e; simp [upd, hb]
      · simp [upd, e]
    show (if x v then F (upd x v true) else F (upd x v false)) = F x
    cases hb : x v
    · simp [hx _ hb]
    · simp [hx _ hb]
  refine ⟨(r1.ext.trans r2.ext).trans e3, m.lt i2 hlo, m.ge i2 (by omega) h1, fin, ?_⟩
  intro j hj1 hj2
  rcases Nat.lt_or_ge j A1.len with h | h
  · rw [(r2.ext.trans e3).den i1 h]
    have := r1.new j hj1 h
    subst hL
    exact (Cof.upd hF false).trans this
  · rcases Nat.lt_or_ge j A2.len with h' | h'
    · rw [e3.den i2 h']
      have := r2.new j h h'
      subst hH
      exact (Cof.upd hF true).trans this
    · obtain ⟨rfl, hf⟩ := m.newIs h' hj2
      have hnf : A3.full = false := by
        rw [hf]
        cases hf2 : A2.full
        · rfl
        · have := m.notFull i2 hf2; omega
      rw [fin hnf]
      exact Cof.self F

/-- Nothing is made: the answer was there. -/
theorem res_there {A : St} {r k : Nat} {F : Fn} (i : Inv A) (hr : r < A.len) (hk : k ≤ var A.ns r) (h : A.full = false → den A.ns r = F) : Res A A r F k :=
  ⟨Ext.refl i, hr, hk, h, fun j h1 h2 => by omega⟩

/-- It is full: nothing is looked at. -/
theorem res_full {A : St} {k : Nat} {F : Fn} (i : Inv A) (hf : A.full = true) (hk : k ≤ A.vars) : Res A A 0 F k :=
  res_there i (by have := i.ok.two; show 0 < A.ns.length; omega) (by rw [var_zero i.ok]; exact hk) (fun h => by rw [hf] at h; cases h)

theorem Res.mono {A A' : St} {r k k' : Nat} {F : Fn} (h : Res A A' r F k) (hk : k' ≤ k) : Res A A' r F k' := ⟨h.ext, h.lt, Nat.le_trans hk h.ge, h.eq, h.new⟩

/-- How many are made at most. -/
theorem Res.grows {A A' : St} {r k K : Nat} {F : Fn} (h : Res A A' r F k) (i : Inv A) (hF : Below K F) : A'.len < A.len + 2 ^ K := by
  obtain ⟨more, e⟩ := h.ext.ns
  have hv := h.ext.vars
  have ok' : Ok A.vars (A.ns ++ more) := by rw [← e, ← hv]; exact h.ext.inv.ok
  have := count_cof i.ok ok' hF (fun j h1 h2 => by
    have := h.new j h1 (by rw [St.len, e]; exact h2)
    rwa [e] at this)
  show A'.ns.length < A.ns.length + _
  rw [e, List.length_append]
  omega

/-- What is denoted hangs on the arena's variables alone. -/
theorem den_below {vars : Nat} {ns : List Node} (ok : Ok vars ns) : ∀ f, f < ns.length → Below vars (den ns f) := by
  intro f
  induction f using Nat.strongRecOn with
  | ind f ih =>
    intro hf x y hxy
    by_cases h0 : f = 0
    · subst h0; simp [den_zero]
    by_cases h1 : f = 1
    · subst h1; simp [den_one]
    obtain ⟨n, hn⟩ := get_of_lt hf
    have hb := ok.node f n hn (by omega)
    rw [den_node ok hn (by omega), den_node ok hn (by omega), hxy n.v hb.1, ih n.hi (by omega) (by omega) x y hxy, ih n.lo (by omega) (by omega) x y hxy]

/-- part of a function: with a variable not behind its own. -/
def part (ns : List Node) (f v : Nat) (is : Bool) : Nat :=
  match ns[f]? with
  | none => f
  | some n => if n.v ≠ v then f else if is then n.hi else n.lo

theorem part_lt {vars : Nat} {ns : List Node} (ok : Ok vars ns) {f v : Nat} (hf : f < ns.length) (hv : v < vars) (is : Bool) : part ns f v is < ns.length := by
  obtain ⟨n, hn⟩ := get_of_lt hf
  unfold part
  simp only [hn]
  split
  · exact hf
  · rename_i hnv
    have hnv' : n.v = v := Classical.byContradiction hnv
    have h2 : 2 ≤ f := (var_lt_iff ok hf).1 (by rw [var_some hn]; omega)
    have hb := ok.node f n hn h2
    cases is
    · show n.lo < _; omega
    · show n.hi < _; omega

theorem part_var {vars : Nat} {ns : List Node} (ok : Ok vars ns) {f v : Nat} (hf : f < ns.length) (hv : v < vars) (hle : v ≤ var ns f) (is : Bool) : v + 1 ≤ var ns (part ns f v is) := by
  obtain ⟨n, hn⟩ := get_of_lt hf
  unfold part
  simp only [hn]
  rw [var_some hn] at hle
  split
  · rw [var_some hn]; omega
  · rename_i hnv
    have hnv' : n.v = v := Classical.byContradiction hnv
    have h2 : 2 ≤ f := (var_lt_iff ok hf).1 (by rw [var_some hn]; omega)
    have hb := ok.node f n hn h2
    cases is
    · show v + 1 ≤ var ns n.lo; omega
    · show v + 1 ≤ var ns n.hi; omega

theorem part_den {vars : Nat} {ns : List Node} (ok : Ok vars ns) {f v : Nat} (hf : f < ns.length) (hv : v < vars) (hle : v ≤ var ns f) (is : Bool) : den ns (part ns f v is) = fun x => den ns f (upd x v is) := by
  obtain ⟨n, hn⟩ := get_of_lt hf
  unfold part
  simp only [hn]
  rw [var_some hn] at hle
  funext x
  split
  · exact indep ok f hf _ _ (fun u hu => by rw [var_some hn] at hu; rw [upd_other _ _ (by omega)])
  · rename_i hnv
    have hnv' : n.v = v := Classical.byContradiction hnv
    subst hnv'
    have h2 : 2 ≤ f := (var_lt_iff ok hf).1 (by rw [var_some hn]; omega)
    cases is
    · exact (den_lo ok hn h2 x).symm
    · exact (den_hi ok hn h2 x).symm

end Go.Proofs.YtohbafigjpoijaaDoor.Bdd

/- Maps in memory by what they hold, whatever their elements are. -/
set_option linter.unusedVariables false
namespace Go.Proofs.YtohbafigjpoijaaDoor
open Go.RowKit Go.Maps Go.WideElems

theorem length_le_of_subset' {α : Type} : ∀ (l L : List α), l.Nodup → (∀ a ∈ l, a ∈ L) → l.length ≤ L.length := by
  intro l
  induction l with
  | nil => intro L _ _; simp
  | cons a l ih =>
    intro L hn hs
    have ha : a ∈ L := hs a (by simp)
    obtain ⟨s, t, rfl⟩ := List.append_of_mem ha
    have hn' := List.nodup_cons.1 hn
    have := ih (s ++ t) hn'.2 (fun b hb => by
      have hb' := hs b (by simp [hb])
      have hne : b ≠ a := fun e => hn'.1 (e ▸ hb)
      simp only [List.mem_append, List.mem_cons] at hb' ⊢
      rcases hb' with h | h | h
      · exact .inl h
      · exact absurd h hne
      · exact .inr h)
    simp only [List.length_append, List.length_cons] at this ⊢
    omega

/-- An element reads as itself. -/
def heldR (v : Value) : Option (DataW Value × List MemPlace) := some (.held v, [])

def MapIs {α : Type} (P : Program) (kt : TypeId) (key : α → Value) (dom : α → Prop) (w : World) (b : Nat) (M : α → Option Value) : Prop :=
  ∃ D, w.ownsMap P kt heldR b (Maps.size D) D ∧
    (∀ a, dom a → ∀ kl, keyOf P kt (key a) = some kl → Maps.has D kl = (M a).isSome ∧ ∀ z, D.atKey kl (.held z) = .held ((M a).getD z)) ∧
    (∀ kl, Maps.has D kl = true → ∃ a, dom a ∧ keyOf P kt (key a) = some kl)

/-- What is asked of keys: they can be keys, and tell what they are of; there are only so many. -/
structure KeysOk {α : Type} (P : Program) (kt : TypeId) (key : α → Value) (dom : α → Prop) : Prop where
  law : Keyed P kt
  total : ∀ a, dom a → ∃ kl, keyOf P kt (key a) = some kl
  inj : ∀ a a', key a = key a' → a = a'
  few : ∃ L : List α, L.length < 9223372036854775807 ∧ ∀ a, dom a → a ∈ L

section
variable {α : Type} {P : Program} {kt : TypeId} {key : α → Value} {dom : α → Prop} {w w' : World} {b : Nat} {M : α → Option Value}

theorem ownsMap_tight {n : Nat} {D : DataW Value} (h : w.ownsMap P kt heldR b n D) : w.ownsMap P kt heldR b (Maps.size D) D := by
  obtain ⟨es, clock, hb, F, hs, hD⟩ := h
  refine ⟨es, clock, hb, F, ?_, hD⟩
  rw [hD]
  simp [Maps.size, length_sorted]

theorem MapIs.made (w : World) : MapIs P kt key dom (w.alloc (.map #[] 0)) w.heap.size (fun _ => none) :=
  ⟨.map [], World.ownsMap_made w P kt heldR, fun a _ kl _ => ⟨rfl, fun z => rfl⟩, fun kl h => by simp [Maps.has] at h⟩

theorem MapIs.lt (h : MapIs P kt key dom w b M) : b < w.heap.size := by
  obtain ⟨D, h1, _⟩ := h
  exact h1.lt
theorem MapIs.kept {row : Option Nat} (h : MapIs P kt key dom w b M) (hg : w.grownBy w' row) (hne : some b ≠ row) : MapIs P kt key dom w' b M := by
  obtain ⟨D, h1, h2, h3⟩ := h
  exact ⟨D, h1.kept hg hne, h2, h3⟩
theorem MapIs.same (h : MapIs P kt key dom w b M) (hb : w'.heap[b]? = w.heap[b]?) : MapIs P kt key dom w' b M := by
  obtain ⟨D, ⟨es, clock, hh, F, hs, hD⟩, h2, h3⟩ := h
  exact ⟨D, ⟨es, clock, hb.trans hh, F, hs, hD⟩, h2, h3⟩

theorem MapIs.size (h : MapIs P kt key dom w b M) (K : KeysOk P kt key dom) : ∃ D, w.ownsMap P kt heldR b (Maps.size D) D ∧ Maps.size D < maxLen ∧
    (∀ a, dom a → ∀ kl, keyOf P kt (key a) = some kl → Maps.has D kl = (M a).isSome ∧ ∀ z, D.atKey kl (.held z) = .held ((M a).getD z)) ∧
    (∀ kl, Maps.has D kl = true → ∃ a, dom a ∧ keyOf P kt (key a) = some kl) := by
  obtain ⟨D, h1, h2, h3⟩ := h
  refine ⟨D, h1, ?_, h2, h3⟩
  obtain ⟨L, hL, hall⟩ := K.few
  have ht := h1.tidy K.law
  obtain ⟨es, rfl, hp⟩ := ht
  have hk : ∀ p ∈ es, WideAt.IsKeyLit p.1 := by
    obtain ⟨es', clock, _, F, _, hD⟩ := h1
    simp only [DataW.map.injEq] at hD
    intro p hpm
    rw [hD] at hpm
    have hm := (Go.WideShapes.sorted_perm _).mem_iff.1 hpm
    obtain ⟨v, hv⟩ := fit_keys F p hm
    exact K.law.key hv
  have hsz : es.length ≤ (L.filterMap fun a => keyOf P kt (key a)).length := by
    have := length_le_of_subset' (es.map (·.1)) (L.filterMap fun a => keyOf P kt (key a)) (by
      rw [List.nodup_iff_pairwise_ne, List.pairwise_map]; exact hp) (fun kl hkl => by
      obtain ⟨p, hpm, rfl⟩ := List.mem_map.1 hkl
      obtain ⟨a, ha, hka⟩ := h3 p.1 (by
        rw [Maps.has_eq, List.any_eq_true]
        exact ⟨p, hpm, WideAt.sameKey_self (hk p hpm)⟩)
      exact List.mem_filterMap.2 ⟨a, hall a ha, hka⟩)
    simpa using this
  have := List.length_filterMap_le (fun a => keyOf P kt (key a)) L
  show es.length < maxLen
  unfold maxLen
  omega

/-- M with one entry more. -/
def putM [DecidableEq α] (M : α → Option Value) (a : α) (v : Value) : α → Option Value := fun x => if x = a then some v else M x
theorem putM_same [DecidableEq α] (M : α → Option Value) (a : α) (v : Value) : putM M a v a = some v := by simp [putM]
theorem putM_other [DecidableEq α] (M : α → Option Value) {a x : α} (v : Value) (h : x ≠ a) : putM M a v x = M x := by simp [putM, h]

theorem MapIs.look {t et : TypeId} (h : MapIs P kt key dom w b M) (K : KeysOk P kt key dom) (ht : P.underlying t = some (.map kt et)) {z : Value} (hz : (zeroValue et).run P w = .ok z w) {a : α} (ha : dom a) :
    (Instr.lookup t (.map (some b)) (key a) true).run P w = .ok (.tuple #[(M a).getD z, .bool (M a).isSome]) w ∧ (Instr.lookup t (.map (some b)) (key a) false).run P w = .ok ((M a).getD z) w := by
  obtain ⟨D, h1, h2, h3⟩ := h
  obtain ⟨kl, hkl⟩ := K.total a ha
  obtain ⟨e1, e2⟩ := h2 a ha kl hkl
  obtain ⟨v, ps, hrun, hv⟩ := h1.look_ok K.law ht hz (zd := .held z) (zp := []) rfl hkl
  obtain ⟨v', ps', hrun', hv'⟩ := h1.lookup K.law ht hz (zd := .held z) (zp := []) rfl hkl
  rw [e2 z] at hv hv'
  simp only [heldR, Option.some.injEq, Prod.mk.injEq, DataW.held.injEq] at hv hv'
  rw [hrun, hrun', e1, hv.1, hv'.1]
  exact ⟨rfl, rfl⟩

theorem MapIs.store [DecidableEq α] {t et : TypeId} (h : MapIs P kt key dom w b M) (K : KeysOk P kt key dom) (ht : P.underlying t = some (.map kt et)) {a : α} (ha : dom a) (v : Value) :
    ∃ w', (Instr.mapUpdate t (.map (some b)) (key a) v).run P w = .ok () w' ∧ MapIs P kt key dom w' b (putM M a v) ∧ w.grownBy w' (some b) := by
  obtain ⟨D, h1, hn, h2, h3⟩ := h.size K
  obtain ⟨kl, hkl⟩ := K.total a ha
  obtain ⟨w', hrun, r1, r2⟩ := h1.update K.law ht hn hkl (val := v) (d := .held v) (ps := []) rfl
  have hD : IsMap D := (h1.tidy K.law).isMap
  refine ⟨w', hrun, ⟨D.put kl (.held v), ownsMap_tight r1, ?_, ?_⟩, r2⟩
  · intro a' ha' kl' hkl'
    by_cases e : a' = a
    · subst e
      have : kl' = kl := Option.some.inj (hkl'.symm.trans hkl)
      subst this
      rw [putM_same]
      exact ⟨Maps.has_put_same hD (K.law.key hkl) _, fun z => Maps.atKey_put_same hD (K.law.key hkl) _ _⟩
    · rw [putM_other M v e]
      have hne : kl' ≠ kl := fun ek => by subst ek; exact e (K.inj _ _ (K.law.inj hkl' hkl))
      rw [Maps.has_put_other hne]
      obtain ⟨q1, q2⟩ := h2 a' ha' kl' hkl'
      exact ⟨q1, fun z => by rw [Maps.atKey_put_other hne]; exact q2 z⟩
  · intro kl' hkl'
    by_cases e : kl' = kl
    · subst e; exact ⟨a, ha, hkl⟩
    · rw [Maps.has_put_other e] at hkl'
      exact h3 kl' hkl'
end

section
variable {α : Type} {P : Program} {kt : TypeId} {key : α → Value} {dom : α → Prop} {b : Nat} {M : α → Option Value} (w : World)

theorem wpList_look_ok {ops : Array Oper} {rest : List Oper} {o : Oper} {a : Act} {Q : Exit → Act → World → Prop} (hg : o.guard = none) (m x : Operand) (t : TypeId) (hop : o.op = Op.lookup t m x true)
    (et : TypeId) (K : KeysOk P kt key dom) (ht : P.underlying t = some (.map kt et)) {z : Value} (hz : (zeroValue et).run P w = .ok z w) (hm : a.eval m = .map (some b)) (h : MapIs P kt key dom w b M) (k : α) (hk : dom k) (hx : a.eval x = key k)
    (r : Option Value) (hr : M k = r) (hK : wpList P ops Q rest (a.put o.dst (.tuple #[r.getD z, .bool r.isSome])) w) : wpList P ops Q (o :: rest) a w := by
  refine wpList_plain hg fun K' hK' => ?_
  have hrun := (h.look K ht hz hk).1
  rw [hr] at hrun
  unfold Oper.wp
  simp [execOp, hop, hm, hx, hrun, Result.andThen]
  exact hK' _ _ hK

theorem wpList_look {ops : Array Oper} {rest : List Oper} {o : Oper} {a : Act} {Q : Exit → Act → World → Prop} (hg : o.guard = none) (m x : Operand) (t : TypeId) (hop : o.op = Op.lookup t m x false)
    (et : TypeId) (K : KeysOk P kt key dom) (ht : P.underlying t = some (.map kt et)) {z : Value} (hz : (zeroValue et).run P w = .ok z w) (hm : a.eval m = .map (some b)) (h : MapIs P kt key dom w b M) (k : α) (hk : dom k) (hx : a.eval x = key k)
    (r : Option Value) (hr : M k = r) (hK : wpList P ops Q rest (a.put o.dst (r.getD z)) w) : wpList P ops Q (o :: rest) a w := by
  refine wpList_plain hg fun K' hK' => ?_
  have hrun := (h.look K ht hz hk).2
  rw [hr] at hrun
  unfold Oper.wp
  simp [execOp, hop, hm, hx, hrun, Result.andThen]
  exact hK' _ _ hK

theorem wpList_storeM [DecidableEq α] {ops : Array Oper} {rest : List Oper} {o : Oper} {a : Act} {Q : Exit → Act → World → Prop} (hg : o.guard = none) (m x v : Operand) (t : TypeId) (hop : o.op = Op.mapUpdate t m x v)
    (et : TypeId) (K : KeysOk P kt key dom) (ht : P.underlying t = some (.map kt et)) (hm : a.eval m = .map (some b)) (h : MapIs P kt key dom w b M) (k : α) (hk : dom k) (hx : a.eval x = key k) (val : Value) (hv : a.eval v = val)
    (hK : ∀ w', MapIs P kt key dom w' b (putM M k val) → w.grownBy w' (some b) → wpList P ops Q rest (a.put o.dst undef) w') : wpList P ops Q (o :: rest) a w := by
  refine wpList_plain hg fun K' hK' => ?_
  obtain ⟨w', hrun, r1, r2⟩ := h.store K ht hk val
  unfold Oper.wp
  simp [execOp, hop, hm, hx, hv, hrun, Result.andThen]
  exact hK' _ _ (hK w' r1 r2)
end
end Go.Proofs.YtohbafigjpoijaaDoor

/- Keys of three numbers. -/
set_option linter.unusedVariables false
set_option linter.unusedSimpArgs false
namespace Go.Proofs.YtohbafigjpoijaaDoor
open Go.RowKit Go.Maps Bdd

/-! ### keys of three numbers -/
abbrev Tri := Nat × Nat × Nat
def triVal (t : Tri) : Value := .agg #[.int .i64 t.1, .int .i64 t.2.1, .int .i64 t.2.2]
def triDom (t : Tri) : Prop := t.1 < 65536 ∧ t.2.1 < 65536 ∧ t.2.2 < 65536

theorem triVal_inj (a b : Tri) (h : triVal a = triVal b) : a = b := by
  obtain ⟨a1, a2, a3⟩ := a
  obtain ⟨b1, b2, b3⟩ := b
  simp only [triVal, Value.agg.injEq, Array.mk.injEq, List.cons.injEq, Value.int.injEq, true_and, and_true, Int.natCast_inj] at h
  simp [h]

theorem tri_few : ∃ L : List Tri, L.length < 9223372036854775807 ∧ ∀ a, triDom a → a ∈ L := by
  have gen : ∀ N : Nat, ∃ L : List Tri, L.length = N * (N * N) ∧ ∀ a b c : Nat, a < N → b < N → c < N → (a, b, c) ∈ L := fun N => by
    refine ⟨(List.range N).flatMap fun a => (List.range N).flatMap fun b => (List.range N).map fun c => (a, b, c), ?_, ?_⟩
    · have h1 : ∀ (β : Type) (f : Nat → List β) (m : Nat), (∀ a, (f a).length = m) → ∀ n, ((List.range n).flatMap f).length = n * m := fun β f m hf n => by
        induction n with
        | zero => simp
        | succ n ih => rw [List.range_succ, List.flatMap_append, List.length_append, ih, Nat.succ_mul]; simp [hf]
      exact h1 _ _ _ (fun a => h1 _ _ _ (fun b => by simp) N) N
    · intro a b c ha hb hc
      simp only [List.mem_flatMap, List.mem_range, List.mem_map]
      exact ⟨a, ha, b, hb, c, hc, rfl⟩
  obtain ⟨L, h1, h2⟩ := gen 65536
  refine ⟨L, by rw [h1]; decide, fun a ha => ?_⟩
  obtain ⟨a1, a2, a3⟩ := a
  exact h2 a1 a2 a3 ha.1 ha.2.1 ha.2.2

theorem i64_wf (n : Nat) (h : n < 65536) : (Lit.int .i64 (n : Int)).wf = true := WalkArith.wf_i64 (by omega)

theorem row_lt_of {P : Program} {k : TypeId} {d : TypeDesc} (h : P.underlying k = some d) (hs : decide (k < P.types.size) = true) : k < P.types.size := of_decide_eq_true hs

theorem cellsI : Tryd.prog.cellsOf 3 = 1 := by kernel_rfl
theorem tri_key {P : Program} {k i : TypeId} {f1 f2 f3 : Field} (hu : P.underlying k = some (.struct #[f1, f2, f3])) (h1 : f1.type = i ∧ f1.offset = 0 ∧ f1.name ≠ "_") (h2 : f2.type = i ∧ f2.offset = 1 ∧ f2.name ≠ "_") (h3 : f3.type = i ∧ f3.offset = 2 ∧ f3.name ≠ "_")
    (hi : P.underlying i = some (.int .i64)) (hk : P.keyType k = true) (hc : P.cellsOf k = 3) (hci : P.cellsOf i = 1) (hm : ∃ m, P.types.size = m + 1) (t : Tri) (ht : triDom t) : ∃ kl, keyOf P k (triVal t) = some kl := by
  obtain ⟨a, b, c⟩ := t
  have w1 := i64_wf a ht.1
  have w2 := i64_wf b ht.2.1
  have w3 := i64_wf c ht.2.2
  obtain ⟨m, hm⟩ := hm
  unfold keyOf
  rw [hu]
  simp [hk, Value.formed, hu, triVal, hc, Value.cells, hm, Program.keyLits, hci, hi, w1, w2, w3, h1, h2, h3]

end Go.Proofs.YtohbafigjpoijaaDoor

/- The arena in memory. -/
set_option linter.unusedVariables false
set_option linter.unusedSimpArgs false
namespace Go.Proofs.YtohbafigjpoijaaDoor
open Go.RowKit Go.Maps Bdd

/-! ### frames: only some blocks, and new ones, have turned -/
structure Frm (S : Nat → Prop) (w w' : World) : Prop where
  os : w'.os = w.os
  tape : w'.tape = w.tape
  output : w'.output = w.output
  size : w.heap.size ≤ w'.heap.size
  block : ∀ k, k < w.heap.size → ¬ S k → w'.heap[k]? = w.heap[k]?

theorem Frm.refl (S : Nat → Prop) (w : World) : Frm S w w := ⟨rfl, rfl, rfl, Nat.le_refl _, fun _ _ _ => rfl⟩
theorem Frm.of_below {S : Nat → Prop} {w w' : World} (h : Below w.heap.size w w') : Frm S w w' := ⟨h.os, h.tape, h.output, h.size, fun k hk _ => h.block k hk⟩
theorem Frm.trans {S S' : Nat → Prop} {a b c : World} (h : Frm S a b) (k : Frm S' b c) (hs : ∀ i, i < a.heap.size → S' i → S i) : Frm S a c :=
  ⟨k.os.trans h.os, k.tape.trans h.tape, k.output.trans h.output, Nat.le_trans h.size k.size, fun i hi hn => (k.block i (Nat.lt_of_lt_of_le hi h.size) (fun hS => hn (hs i hi hS))).trans (h.block i hi hn)⟩
theorem Frm.mono {S S' : Nat → Prop} {a b : World} (h : Frm S a b) (hs : ∀ i, i < a.heap.size → S i → S' i) : Frm S' a b := ⟨h.os, h.tape, h.output, h.size, fun i hi hn => h.block i hi (fun hS => hn (hs i hi hS))⟩
theorem Frm.below {S : Nat → Prop} {a b : World} (h : Frm S a b) {B : Nat} (hB : B ≤ a.heap.size) (hs : ∀ i, S i → B ≤ i) : Below B a b :=
  ⟨h.os, h.tape, h.output, h.size, fun k hk => h.block k (by omega) (fun hS => by have := hs k hS; omega)⟩
theorem Frm.of_grown {S : Nat → Prop} {a b : World} {row : Option Nat} (h : a.grownBy b row) (hs : ∀ k, row = some k → k < a.heap.size → S k) : Frm S a b :=
  ⟨h.os, h.tape, h.output, h.size, fun k hk hn => h.block k hk (fun e => hn (hs k e.symm hk))⟩
theorem Frm.setCell {S : Nat → Prop} {a : World} {p : Addr} (hp : S p.block) (u : Value) : Frm S a (a.setCell p u) :=
  ⟨rfl, rfl, rfl, by simp [World.setCell], fun k hk hn => Below.heap_setCell _ _ _ _ (fun e => hn (e ▸ hp))⟩
theorem Frm.cell {S : Nat → Prop} {a b : World} (h : Frm S a b) {p : Addr} (hp : p.block < a.heap.size) (hn : ¬ S p.block) : b.cell? p = a.cell? p := World.cell?_of_block (h.block p.block hp hn)
theorem Frm.frozen {S : Nat → Prop} {a b : World} (h : Frm S a b) {p : Addr} (hp : p.block < a.heap.size) (hn : ¬ S p.block) : b.frozen? p = a.frozen? p := World.frozen?_of_block (h.block p.block hp hn)

/-! ### the arena -/
def nodeCells (n : Bdd.Node) : List Value := [.int .i64 n.v, .int .i64 n.lo, .int .i64 n.hi]
theorem nodeCells_len (n : Bdd.Node) : (nodeCells n).length = 3 := rfl
theorem nodeCells_one (n : Bdd.Node) : ∀ u ∈ nodeCells n, u.oneCell' = true := by
  intro u hu
  simp only [nodeCells, List.mem_cons, List.not_mem_nil, or_false] at hu
  rcases hu with rfl | rfl | rfl <;> rfl

def KnownOk (ns : List Bdd.Node) (K : Tri → Option Value) : Prop := ∀ (v lo hi : Nat) (x : Value), K (v, lo, hi) = some x ↔ ∃ i : Nat, 2 ≤ i ∧ ns[i]? = some ⟨v, lo, hi⟩ ∧ x = .int .i64 (i : Int)
def ItesOk (ns : List Bdd.Node) (T : Tri → Option Value) : Prop := ∀ (f g h : Nat) (x : Value), T (f, g, h) = some x → ∃ r : Nat, x = .int .i64 (r : Int) ∧ f < ns.length ∧ g < ns.length ∧ h < ns.length ∧ r < ns.length ∧ den ns r = iteF (den ns f) (den ns g) (den ns h)

/-- The arena's blocks: its own, its nodes', its two maps'. -/
def Fp (g nb kb ib : Nat) (k : Nat) : Prop := k = g ∨ k = nb ∨ k = kb ∨ k = ib

section
variable {w w' : World} {B g nb kb ib cap : Nat} {A : St} {K T : Tri → Option Value}

theorem cell_map {w : World} {b o : Nat} {v : Value} (hc : w.cell? ⟨b, o, none⟩ = some v) {es : Array MapEntry} {c : Nat} (hm : w.heap[b]? = some (.map es c)) : False := by
  unfold World.cell? at hc
  rw [hm] at hc
  simp at hc
theorem MapIs.block {α : Type} {P : Program} {kt : TypeId} {key : α → Value} {dom : α → Prop} {w : World} {b : Nat} {M : α → Option Value} (h : MapIs P kt key dom w b M) : ∃ es c, w.heap[b]? = some (.map es c) := by
  obtain ⟨D, ⟨es, clock, hh, _⟩, _⟩ := h
  exact ⟨es, clock, hh⟩
theorem own_block {w : World} {B e s nb n cap : Nat} {xs : List Value} (h : w.ownsRow B e s (.slice (some ⟨nb, 0, none⟩) n cap) n xs) : ∃ cur, w.heap[nb]? = some (.cells cur e (0, 0)) := by
  rcases h.2 with ⟨h1, _⟩ | ⟨g', cap', cur, h1, _, h2, _⟩
  · cases h1
  · cases h1; exact ⟨cur, h2⟩

end
end Go.Proofs.YtohbafigjpoijaaDoor

/- The arena's inner calls: part, done, New. -/
set_option linter.unusedVariables false
set_option linter.unusedSimpArgs false
namespace Go.Proofs.YtohbafigjpoijaaDoor
open Go.RowKit Go.Maps Bdd

theorem own_setCell {w : World} {base e s n : Nat} {v : Value} {xs : List Value} (h : w.ownsRow base e s v n xs) {p : Addr} (hp : ∀ k, v.ownBlock = some k → k ≠ p.block) (u : Value) : (w.setCell p u).ownsRow base e s v n xs := by
  obtain ⟨h1, h2⟩ := h
  refine ⟨h1, ?_⟩
  rcases h2 with h2 | ⟨g', cap', cur, hv, hb, hh, r⟩
  · exact .inl h2
  · subst hv
    exact .inr ⟨_, _, cur, rfl, hb, (RowKit.Below.heap_setCell _ _ _ _ (hp g' rfl)).trans hh, r⟩

/-- done: what was made, if there was room. -/
def doneSt (A : St) : St := { A with full := false }

end Go.Proofs.YtohbafigjpoijaaDoor

/- The arena's inner calls: made. -/
set_option linter.unusedVariables false
set_option linter.unusedSimpArgs false
namespace Go.Proofs.YtohbafigjpoijaaDoor
open Go.RowKit Go.Maps Bdd

theorem zeroI (w : World) : (zeroValue 3).run Tryd.prog w = .ok (.int .i64 0) w := by kernel_rfl

end Go.Proofs.YtohbafigjpoijaaDoor

/- The arena's inner calls: ite. -/
set_option linter.unusedVariables false
set_option linter.unusedSimpArgs false
namespace Go.Proofs.YtohbafigjpoijaaDoor
open Go.RowKit Go.Maps Bdd

def min3 (a b c : Nat) : Nat := min (min a b) c

theorem iteF_indep {F G H : Bdd.Fn} {k : Nat} (hF : ∀ x y : Asg, (∀ u, k ≤ u → x u = y u) → F x = F y) (hG : ∀ x y : Asg, (∀ u, k ≤ u → x u = y u) → G x = G y) (hH : ∀ x y : Asg, (∀ u, k ≤ u → x u = y u) → H x = H y) :
    ∀ x y : Asg, (∀ u, k ≤ u → x u = y u) → iteF F G H x = iteF F G H y := fun x y h => by
  simp only [iteF, hF x y h, hG x y h, hH x y h]

theorem den_indep {vars : Nat} {ns : List Bdd.Node} (ok : Ok vars ns) {f k : Nat} (hf : f < ns.length) (hk : k ≤ var ns f) : ∀ x y : Asg, (∀ u, k ≤ u → x u = y u) → den ns f x = den ns f y := fun x y h => indep ok f hf x y (fun u hu => h u (by omega))

/-! ### the two inner calls: what they are given, and what their answers come to -/
theorem part_same {A A1 : St} (h : Ext A A1) {f : Nat} (hf : f < A.ns.length) (v : Nat) (is : Bool) : Bdd.part A1.ns f v is = Bdd.part A.ns f v is := by
  unfold Bdd.part; rw [h.get hf]

structure PS (A : St) (f a b k : Nat) : Prop where
  inv : Inv A
  hf : f < A.ns.length
  ha : a < A.ns.length
  hb : b < A.ns.length
  hv : k < A.vars
  kf : k ≤ var A.ns f
  ka : k ≤ var A.ns a
  kb : k ≤ var A.ns b

theorem PS.indep {A : St} {f a b k : Nat} (h : PS A f a b k) : ∀ x y : Asg, (∀ u, k ≤ u → x u = y u) → iteF (den A.ns f) (den A.ns a) (den A.ns b) x = iteF (den A.ns f) (den A.ns a) (den A.ns b) y :=
  iteF_indep (den_indep h.inv.ok h.hf h.kf) (den_indep h.inv.ok h.ha h.ka) (den_indep h.inv.ok h.hb h.kb)

theorem PS.args {A A1 : St} {f a b k : Nat} (h : PS A f a b k) (he : Ext A A1) {is : Bool} {p q r : Nat} (hp : Bdd.part A.ns f k is = p) (hq : Bdd.part A.ns a k is = q) (hr : Bdd.part A.ns b k is = r) :
    p < A1.ns.length ∧ q < A1.ns.length ∧ r < A1.ns.length ∧ k + 1 ≤ min3 (var A1.ns p) (var A1.ns q) (var A1.ns r) ∧
      iteF (den A1.ns p) (den A1.ns q) (den A1.ns r) = fun x => iteF (den A.ns f) (den A.ns a) (den A.ns b) (upd x k is) := by
  have ok := h.inv.ok
  have l1 := part_lt ok h.hf h.hv is
  have l2 := part_lt ok h.ha h.hv is
  have l3 := part_lt ok h.hb h.hv is
  have v1 := part_var ok h.hf h.hv h.kf is
  have v2 := part_var ok h.ha h.hv h.ka is
  have v3 := part_var ok h.hb h.hv h.kb is
  have d1 := part_den ok h.hf h.hv h.kf is
  have d2 := part_den ok h.ha h.hv h.ka is
  have d3 := part_den ok h.hb h.hv h.kb is
  rw [hp] at l1 v1 d1
  rw [hq] at l2 v2 d2
  rw [hr] at l3 v3 d3
  have hl := he.len
  simp only [St.len] at hl
  refine ⟨by omega, by omega, by omega, ?_, ?_⟩
  · rw [he.var l1, he.var l2, he.var l3]; unfold min3; omega
  · rw [he.den h.inv l1, he.den h.inv l2, he.den h.inv l3, d1, d2, d3]; rfl

end Go.Proofs.YtohbafigjpoijaaDoor

/- The arena's inner calls: New. -/
set_option linter.unusedVariables false
set_option linter.unusedSimpArgs false
namespace Go.Proofs.YtohbafigjpoijaaDoor
open Go.RowKit Go.Maps Bdd

def newSt (vars most : Nat) : St := ⟨vars, most, [⟨vars, 0, 0⟩, ⟨vars, 0, 0⟩], false⟩

theorem newSt_inv (vars most : Nat) (hv : 1 ≤ vars) (hm : 2 ≤ most) : Inv (newSt vars most) := by
  have hlt : ∀ (i : Nat) (n : Bdd.Node), (newSt vars most).ns[i]? = some n → i < 2 := fun i n h => by
    have := (List.getElem?_eq_some_iff.1 h).1; simpa [newSt] using this
  refine ⟨⟨by simp [newSt], rfl, rfl, fun i n h h2 => by have := hlt i n h; omega, fun i j n h2 _ h _ => by have := hlt i n h; omega⟩, hm, fun h => by cases h⟩

end Go.Proofs.YtohbafigjpoijaaDoor

/- The arena's inner calls: ask. -/
set_option linter.unusedVariables false
set_option linter.unusedSimpArgs false
namespace Go.Proofs.YtohbafigjpoijaaDoor
open Go.RowKit Go.Maps Bdd

/-- A slice of numbers in memory. -/
def IntsAt (w : World) (B : Nat) (A : Option Addr) (n : Nat) (l : List Int) : Prop :=
  l.length = n ∧ (∀ x ∈ l, -9223372036854775808 ≤ x ∧ x ≤ 9223372036854775807) ∧ (0 < n → ∃ b o, A = some ⟨b, o, none⟩ ∧ b < B ∧ ∀ (k : Nat) (x : Int), l[k]? = some x → w.cell? ⟨b, o + k, none⟩ = some (.int .i64 x))
theorem IntsAt.nil (w : World) (B : Nat) (A : Option Addr) : IntsAt w B A 0 [] := ⟨rfl, fun x hx => (by cases hx), fun h => by omega⟩
theorem IntsAt.below {w w' : World} {B B' n : Nat} {A : Option Addr} {l : List Int} (h : IntsAt w B A n l) (hB : RowKit.Below B w w') (hB' : B ≤ B') : IntsAt w' B' A n l :=
  ⟨h.1, h.2.1, fun h0 => by
    obtain ⟨b, o, e, hb, hg⟩ := h.2.2 h0
    exact ⟨b, o, e, by omega, fun k x hx => (hB.cell (p := ⟨b, o + k, none⟩) hb).trans (hg k x hx)⟩⟩

def AskOk (A : St) (fs vs : List Int) : Prop := (∀ x ∈ fs, 0 ≤ x ∧ x < A.ns.length) ∧ ∀ x ∈ vs, 0 ≤ x ∧ x < A.vars
def AskP (A : St) (fs vs : List Int) (w : World) (e : Ending) (W' : World) : Prop :=
  (AskOk A fs vs → e = .returned (.int .i64 0)) ∧ (¬ AskOk A fs vs → e = .returned (.int .i64 1)) ∧ RowKit.Below w.heap.size w W'

theorem ask_upto {P : Int → Prop} {l : List Int} {n k : Nat} (hn : l.length = n) (hk : k = n) (h : ∀ j x, j < k → l[j]? = some x → P x) : ∀ x ∈ l, P x := fun x hx => by
  obtain ⟨j, hj⟩ := List.getElem?_of_mem hx
  exact h j x (by have := (List.getElem?_eq_some_iff.1 hj).1; omega) hj

theorem ask_next {P : Int → Prop} {l : List Int} {k : Nat} {y : Int} (hy : l[k]? = some y) (hp : P y) (h : ∀ j x, j < k → l[j]? = some x → P x) : ∀ j x, j < k + 1 → l[j]? = some x → P x := fun j x hj hx => by
  rcases (by omega : j < k ∨ j = k) with h' | rfl
  · exact h j x h' hx
  · rw [hy] at hx; cases hx; exact hp

end Go.Proofs.YtohbafigjpoijaaDoor

/- The arena's calls: Var, Ite, And. -/
set_option linter.unusedVariables false
set_option linter.unusedSimpArgs false
namespace Go.Proofs.YtohbafigjpoijaaDoor
open Go.RowKit Go.Maps Bdd

theorem ints3 (w : World) (B : Nat) (hB : w.heap.size < B) (f a b : Nat) (hf : f < 65536) (ha : a < 65536) (hb : b < 65536) (t : TypeId) {w1 : World} (h : w1.heap[w.heap.size]? = some (.cells #[.int .i64 f, .int .i64 a, .int .i64 b] t (0, 0))) :
    IntsAt w1 B (some ⟨w.heap.size, 0, none⟩) 3 [(f : Int), (a : Int), (b : Int)] := by
  refine ⟨rfl, fun x hx => ?_, fun _ => ⟨_, 0, rfl, hB, fun k x hx => ?_⟩⟩
  · simp only [List.mem_cons, List.mem_nil_iff, or_false] at hx
    rcases hx with rfl | rfl | rfl <;> omega
  · rw [cell_of_row _ _ _ _ _ _ h]
    match k, hx with
    | 0, hx => cases hx; rfl
    | 1, hx => cases hx; rfl
    | 2, hx => cases hx; rfl

theorem ints1 (w : World) (B : Nat) (hB : w.heap.size < B) (i : Int) (hi : -9223372036854775808 ≤ i ∧ i ≤ 9223372036854775807) (t : TypeId) {w1 : World} (h : w1.heap[w.heap.size]? = some (.cells #[.int .i64 i] t (0, 0))) :
    IntsAt w1 B (some ⟨w.heap.size, 0, none⟩) 1 [i] := by
  refine ⟨rfl, fun x hx => ?_, fun _ => ⟨_, 0, rfl, hB, fun k x hx => ?_⟩⟩
  · simp only [List.mem_cons, List.mem_nil_iff, or_false] at hx
    rw [hx]; exact hi
  · rw [cell_of_row _ _ _ _ _ _ h]
    match k, hx with
    | 0, hx => cases hx; rfl

end Go.Proofs.YtohbafigjpoijaaDoor
