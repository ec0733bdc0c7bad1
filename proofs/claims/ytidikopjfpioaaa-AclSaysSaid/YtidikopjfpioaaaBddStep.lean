/- What the calls of an arena do to its nodes, by what they mean; how many nodes they can make. No program in sight. -/
import Derived.Test.YtidikopjfpioaaaBddPure
set_option linter.unusedVariables false
namespace Go.Proofs.Ytidikopjfpioaaa.Bdd

/-! ### counting -/
def boolLists : Nat → List (List Bool)
  | 0 => [[]]
  | n + 1 => (boolLists n).flatMap fun l => [l ++ [false], l ++ [true]]

theorem boolLists_length (n : Nat) : (boolLists n).length = 2 ^ n := by
  induction n with
  | zero => rfl
  | succ n ih =>
    have h : ∀ L : List (List Bool), (L.flatMap fun l => [l ++ [false], l ++ [true]]).length = 2 * L.length := by
      intro L
      induction L with
      | nil => rfl
      | cons a L ih => simp only [List.flatMap_cons, List.length_append, List.length_cons, List.length_nil, ih]; omega
    simp only [boolLists, h, ih, Nat.pow_succ]; omega

theorem mem_boolLists : ∀ (n : Nat) (s : Asg), (List.range n).map s ∈ boolLists n := by
  intro n s
  induction n with
  | zero => simp [boolLists]
  | succ n ih =>
    rw [List.range_succ, List.map_append]
    simp only [boolLists, List.mem_flatMap]
    refine ⟨_, ih, ?_⟩
    cases h : s n <;> simp [h]

def partsAt (F : Fn) (j : Nat) : List Fn := (boolLists j).map fun l => fun x => F (fun u => if u < j then l.getD u false else x u)
def partsOf (F : Fn) : Nat → List Fn
  | 0 => []
  | K + 1 => partsOf F K ++ partsAt F K

theorem partsOf_length (F : Fn) (K : Nat) : (partsOf F K).length + 1 = 2 ^ K := by
  induction K with
  | zero => rfl
  | succ K ih =>
    simp only [partsOf, partsAt, List.length_append, List.length_map, boolLists_length, Nat.pow_succ]
    omega

theorem mem_partsOf (F : Fn) (s : Asg) : ∀ (K j : Nat), j < K → (fun x => F (fun u => if u < j then s u else x u)) ∈ partsOf F K := by
  intro K
  induction K with
  | zero => intro j h; omega
  | succ K ih =>
    intro j hj
    simp only [partsOf, List.mem_append]
    rcases Nat.lt_or_ge j K with h | h
    · exact .inl (ih j h)
    · right
      have : j = K := by omega
      subst this
      refine List.mem_map.2 ⟨_, mem_boolLists j s, ?_⟩
      funext x
      congr 1
      funext u
      by_cases hu : u < j <;> simp [hu]

/-- F hangs on no variable from K on. -/
def Below (K : Nat) (F : Fn) : Prop := ∀ x y : Asg, (∀ u, u < K → x u = y u) → F x = F y

theorem Below.mono {K K' : Nat} {F : Fn} (h : Below K F) (hk : K ≤ K') : Below K' F := fun x y hxy => h x y fun u hu => hxy u (by omega)
theorem Below.const (b : Bool) (K : Nat) : Below K (fun _ => b) := fun _ _ _ => rfl

theorem cof_mem {F G : Fn} {K : Nat} (hF : Below K F) (h : Cof F G) (hG : ∃ x y, G x ≠ G y) : G ∈ partsOf F K := by
  obtain ⟨k, s, rfl⟩ := h
  rcases Nat.lt_or_ge k K with hk | hk
  · exact mem_partsOf F s K k hk
  · obtain ⟨x, y, hxy⟩ := hG
    refine absurd (hF _ _ fun u hu => ?_) hxy
    have : u < k := by omega
    simp [this]

section
variable {vars : Nat} {ns : List Node}

theorem nonconst (ok : Ok vars ns) {f : Nat} (hf : f < ns.length) (h2 : 2 ≤ f) : ∃ x y, den ns f x ≠ den ns f y := by
  refine Classical.byContradiction fun h => ?_
  have hc : ∀ x y, den ns f x = den ns f y := fun x y => Classical.byContradiction fun hne => h ⟨x, y, hne⟩
  have := var_ge ok hf (Nat.le_refl vars) (fun x y _ => hc x y)
  have := (var_lt_iff ok hf).2 h2
  omega

/-- As many new nodes as there are functions that they may be. -/
theorem count_new {more : List Node} (ok : Ok vars ns) (ok' : Ok vars (ns ++ more)) (L : List Fn) (h : ∀ j, ns.length ≤ j → j < (ns ++ more).length → den (ns ++ more) j ∈ L) : more.length ≤ L.length := by
  have := length_le_of_subset ((List.range more.length).map fun i => den (ns ++ more) (ns.length + i)) L ?_ ?_
  · simpa using this
  · rw [List.nodup_iff_pairwise_ne, List.pairwise_map]
    refine List.Pairwise.imp_of_mem ?_ (List.nodup_iff_pairwise_ne.1 List.nodup_range)
    intro a b ha hb hab he
    simp only [List.mem_range] at ha hb
    have := (canon ok' (by simp; omega) (by simp; omega)).1 he
    omega
  · intro a ha
    obtain ⟨i, hi, rfl⟩ := List.mem_map.1 ha
    simp only [List.mem_range] at hi
    exact h _ (by omega) (by simp; omega)

theorem count_cof {more : List Node} (ok : Ok vars ns) (ok' : Ok vars (ns ++ more)) {F : Fn} {K : Nat} (hF : Below K F) (h : ∀ j, ns.length ≤ j → j < (ns ++ more).length → Cof F (den (ns ++ more) j)) : more.length < 2 ^ K := by
  have := count_new ok ok' (partsOf F K) (fun j h1 h2 => cof_mem hF (h j h1 h2) (nonconst ok' h2 (by have := ok.two; omega)))
  have := partsOf_length F K
  omega
end

/-! ### the arena's states -/
structure St where
  vars : Nat
  most : Nat
  ns : List Node
  full : Bool

abbrev St.len (A : St) : Nat := A.ns.length

structure Inv (A : St) : Prop where
  ok : Ok A.vars A.ns
  bound : A.len ≤ A.most
  full : A.full = true → A.len = A.most

structure Ext (A A' : St) : Prop where
  vars : A'.vars = A.vars
  most : A'.most = A.most
  ns : ∃ more, A'.ns = A.ns ++ more
  full : A.full = true → A'.full = true
  inv : Inv A'

theorem Ext.refl {A : St} (h : Inv A) : Ext A A := ⟨rfl, rfl, ⟨[], by simp⟩, id, h⟩
theorem Ext.trans {A B C : St} (h : Ext A B) (k : Ext B C) : Ext A C := by
  obtain ⟨m1, e1⟩ := h.ns
  obtain ⟨m2, e2⟩ := k.ns
  exact ⟨k.vars.trans h.vars, k.most.trans h.most, ⟨m1 ++ m2, by rw [e2, e1, List.append_assoc]⟩, fun hf => k.full (h.full hf), k.inv⟩
theorem Ext.len {A A' : St} (h : Ext A A') : A.len ≤ A'.len := by
  obtain ⟨m, e⟩ := h.ns
  simp [St.len, e]
theorem Ext.den {A A' : St} (h : Ext A A') (i : Inv A) {f : Nat} (hf : f < A.len) : den A'.ns f = den A.ns f := by
  obtain ⟨m, e⟩ := h.ns
  rw [e]; exact den_append i.ok m hf
theorem Ext.var {A A' : St} (h : Ext A A') {f : Nat} (hf : f < A.len) : var A'.ns f = var A.ns f := by
  obtain ⟨m, e⟩ := h.ns
  rw [e]; exact var_append m hf
theorem Ext.get {A A' : St} (h : Ext A A') {f : Nat} (hf : f < A.len) : A'.ns[f]? = A.ns[f]? := by
  obtain ⟨m, e⟩ := h.ns
  rw [e]; exact get_append m hf
theorem Ext.notFull {A A' : St} (h : Ext A A') (hf : A'.full = false) : A.full = false := by
  cases e : A.full
  · rfl
  · rw [h.full e] at hf; cases hf

def iteF (F G H : Fn) : Fn := fun x => if F x then G x else H x

/-- What a call tells: number r in the state A' behind it; F: what it means, if there was room; from variable k on. -/
structure Res (A A' : St) (r : Nat) (F : Fn) (k : Nat) : Prop where
  ext : Ext A A'
  lt : r < A'.len
  ge : k ≤ var A'.ns r
  eq : A'.full = false → den A'.ns r = F
  new : ∀ j, A.len ≤ j → j < A'.len → Cof F (den A'.ns j)

/-- made: P4's nodes, each once. -/
inductive Made (A : St) (v lo hi : Nat) : Nat → St → Prop
  | same : lo = hi → Made A v lo hi lo A
  | there (r : Nat) : lo ≠ hi → 2 ≤ r → A.ns[r]? = some ⟨v, lo, hi⟩ → Made A v lo hi r A
  | full : lo ≠ hi → (∀ i, 2 ≤ i → A.ns[i]? ≠ some ⟨v, lo, hi⟩) → A.most ≤ A.len → Made A v lo hi 0 { A with full := true }
  | new : lo ≠ hi → (∀ i, 2 ≤ i → A.ns[i]? ≠ some ⟨v, lo, hi⟩) → A.len < A.most → Made A v lo hi A.len { A with ns := A.ns ++ [⟨v, lo, hi⟩] }

def nodeF (v : Nat) (L H : Fn) : Fn := fun x => if x v then H x else L x

theorem Made.ext {A A' : St} {v lo hi r : Nat} (i : Inv A) (h : Made A v lo hi r A') (hv : v < A.vars) (hlo : lo < A.len) (hhi : hi < A.len) (h1 : v < var A.ns lo) (h2 : v < var A.ns hi) : Ext A A' := by
  cases h with
  | same e => exact Ext.refl i
  | there r h0 hr hn => exact Ext.refl i
  | full h0 hn hm => exact ⟨rfl, rfl, ⟨[], by simp⟩, fun _ => rfl, ⟨i.ok, i.bound, fun _ => Nat.le_antisymm i.bound hm⟩⟩
  | new h0 hn hm =>
    refine ⟨rfl, rfl, ⟨_, rfl⟩, id, ⟨i.ok.push hv hlo hhi h0 h1 h2 hn, by simp only [St.len, List.length_append, List.length_cons, List.length_nil] at hm ⊢; omega, fun hf => ?_⟩⟩
    have := i.full hf
    omega

theorem Made.lt {A A' : St} {v lo hi r : Nat} (i : Inv A) (h : Made A v lo hi r A') (hlo : lo < A.len) : r < A'.len := by
  have := i.ok.two
  cases h with
  | same e => exact hlo
  | there r h0 hr hn => exact get_lt hn
  | full h0 hn hm => simp only [St.len] at *; omega
  | new h0 hn hm => simp [St.len]

theorem Made.ge {A A' : St} {v lo hi r : Nat} (i : Inv A) (h : Made A v lo hi r A') (hv : v < A.vars) (h1 : v < var A.ns lo) : v ≤ var A'.ns r := by
  cases h with
  | same e => omega
  | there r h0 hr hn => rw [var_some hn]; exact Nat.le_refl _
  | full h0 hn hm => show v ≤ var A.ns 0; rw [var_zero i.ok]; omega
  | new h0 hn hm => rw [var_some (get_push (ns := A.ns) ⟨v, lo, hi⟩)]; exact Nat.le_refl _

theorem Made.eq {A A' : St} {v lo hi r : Nat} (i : Inv A) (h : Made A v lo hi r A') (hv : v < A.vars) (hlo : lo < A.len) (hhi : hi < A.len) (h1 : v < var A.ns lo) (h2 : v < var A.ns hi) (hf : A'.full = false) :
    den A'.ns r = nodeF v (den A.ns lo) (den A.ns hi) := by
  have he := h.ext i hv hlo hhi h1 h2
  cases h with
  | same e => subst e; funext x; simp [nodeF]
  | there r h0 hr hn => funext x; rw [den_node i.ok hn hr]; rfl
  | full h0 hn hm => cases hf
  | new h0 hn hm =>
    funext x
    rw [den_node he.inv.ok (get_push (ns := A.ns) ⟨v, lo, hi⟩) i.ok.two]
    have e1 := he.den i hlo
    have e2 := he.den i hhi
    simp only at e1 e2
    simp only [e1, e2, nodeF]

/-- What is new is the node itself. -/
theorem Made.newIs {A A' : St} {v lo hi r : Nat} (h : Made A v lo hi r A') {j : Nat} (h1 : A.len ≤ j) (h2 : j < A'.len) : j = r ∧ A'.full = A.full := by
  cases h with
  | same e => omega
  | there r h0 hr hn => omega
  | full h0 hn hm => simp only [St.len] at *; omega
  | new h0 hn hm => simp [St.len] at *; omega

theorem Made.notFull {A A' : St} {v lo hi r : Nat} (i : Inv A) (h : Made A v lo hi r A') (hf : A.full = true) : A.len = A'.len := by
  have := i.full hf
  cases h with
  | same e => rfl
  | there r h0 hr hn => rfl
  | full h0 hn hm => rfl
  | new h0 hn hm => omega

/-- A node out of what it is with its variable false, and true. -/
theorem res_node {A A1 A2 A3 : St} {lo hi r v : Nat} {F L H : Fn} (i : Inv A) (hv : v < A.vars) (hF : ∀ x y : Asg, (∀ u, v ≤ u → x u = y u) → F x = F y)
    (hL : L = fun x => F (upd x v false)) (hH : H = fun x => F (upd x v true))
    (r1 : Res A A1 lo L (v + 1)) (r2 : Res A1 A2 hi H (v + 1)) (m : Made A2 v lo hi r A3) : Res A A3 r F v := by
  have i1 := r1.ext.inv
  have i2 := r2.ext.inv
  have ev1 := r1.ext.vars
  have ev2 := r2.ext.vars
  have l1 := r1.lt
  have l2 := r2.lt
  have l12 := r2.ext.len
  have l01 := r1.ext.len
  have g1 := r1.ge
  have g2 := r2.ge
  have gl : var A2.ns lo = var A1.ns lo := r2.ext.var l1
  have h1 : v < var A2.ns lo := by omega
  have h2 : v < var A2.ns hi := by omega
  have hlo : lo < A2.len := by omega
  have e3 := m.ext i2 (by omega) hlo l2 h1 h2
  have fin : A3.full = false → den A3.ns r = F := by
    intro hf
    rw [m.eq i2 (by omega) hlo l2 h1 h2 hf, r2.ext.den i1 l1, r1.eq (r2.ext.notFull (e3.notFull hf)), r2.eq (e3.notFull hf)]
    funext x
    subst hL hH
    have hx : ∀ b, x v = b → upd x v b = x := by
      intro b hb; funext u; by_cases e : u = v
      · subst e; simp [upd, hb]
      · simp [upd, e]
    show (if x v then F (upd x v true) else F (upd x v false)) = F x
    cases hb : x v
    · simp [hx _ hb]
    · simp [hx _ hb]
  refine ⟨(r1.ext.trans r2.ext).trans e3, m.lt i2 hlo, m.ge i2 (by omega) h1, fin, ?_⟩
  intro j hj1 hj2
  rcases Nat.lt_or_ge j A1.len with h | h
  · rw [(r2.ext.trans e3).den i1 h]
    have := r1.new j hj1 h
    subst hL
    exact (Cof.upd hF false).trans this
  · rcases Nat.lt_or_ge j A2.len with h' | h'
    · rw [e3.den i2 h']
      have := r2.new j h h'
      subst hH
      exact (Cof.upd hF true).trans this
    · obtain ⟨rfl, hf⟩ := m.newIs h' hj2
      have hnf : A3.full = false := by
        rw [hf]
        cases hf2 : A2.full
        · rfl
        · have := m.notFull i2 hf2; omega
      rw [fin hnf]
      exact Cof.self F

/-- Nothing is made: the answer was there. -/
theorem res_there {A : St} {r k : Nat} {F : Fn} (i : Inv A) (hr : r < A.len) (hk : k ≤ var A.ns r) (h : A.full = false → den A.ns r = F) : Res A A r F k :=
  ⟨Ext.refl i, hr, hk, h, fun j h1 h2 => by omega⟩

/-- It is full: nothing is looked at. -/
theorem res_full {A : St} {k : Nat} {F : Fn} (i : Inv A) (hf : A.full = true) (hk : k ≤ A.vars) : Res A A 0 F k :=
  res_there i (by have := i.ok.two; show 0 < A.ns.length; omega) (by rw [var_zero i.ok]; exact hk) (fun h => by rw [hf] at h; cases h)

theorem Res.mono {A A' : St} {r k k' : Nat} {F : Fn} (h : Res A A' r F k) (hk : k' ≤ k) : Res A A' r F k' := ⟨h.ext, h.lt, Nat.le_trans hk h.ge, h.eq, h.new⟩

/-- How many are made at most. -/
theorem Res.grows {A A' : St} {r k K : Nat} {F : Fn} (h : Res A A' r F k) (i : Inv A) (hF : Below K F) : A'.len < A.len + 2 ^ K := by
  obtain ⟨more, e⟩ := h.ext.ns
  have hv := h.ext.vars
  have ok' : Ok A.vars (A.ns ++ more) := by rw [← e, ← hv]; exact h.ext.inv.ok
  have := count_cof i.ok ok' hF (fun j h1 h2 => by
    have := h.new j h1 (by rw [St.len, e]; exact h2)
    rwa [e] at this)
  show A'.ns.length < A.ns.length + _
  rw [e, List.length_append]
  omega

/-- What is denoted hangs on the arena's variables alone. -/
theorem den_below {vars : Nat} {ns : List Node} (ok : Ok vars ns) : ∀ f, f < ns.length → Below vars (den ns f) := by
  intro f
  induction f using Nat.strongRecOn with
  | ind f ih =>
    intro hf x y hxy
    by_cases h0 : f = 0
    · subst h0; simp [den_zero]
    by_cases h1 : f = 1
    · subst h1; simp [den_one]
    obtain ⟨n, hn⟩ := get_of_lt hf
    have hb := ok.node f n hn (by omega)
    rw [den_node ok hn (by omega), den_node ok hn (by omega), hxy n.v hb.1, ih n.hi (by omega) (by omega) x y hxy, ih n.lo (by omega) (by omega) x y hxy]

/-- part of a function: with a variable not behind its own. -/
def part (ns : List Node) (f v : Nat) (is : Bool) : Nat :=
  match ns[f]? with
  | none => f
  | some n => if n.v ≠ v then f else if is then n.hi else n.lo

theorem part_lt {vars : Nat} {ns : List Node} (ok : Ok vars ns) {f v : Nat} (hf : f < ns.length) (hv : v < vars) (is : Bool) : part ns f v is < ns.length := by
  obtain ⟨n, hn⟩ := get_of_lt hf
  unfold part
  simp only [hn]
  split
  · exact hf
  · rename_i hnv
    have hnv' : n.v = v := Classical.byContradiction hnv
    have h2 : 2 ≤ f := (var_lt_iff ok hf).1 (by rw [var_some hn]; omega)
    have hb := ok.node f n hn h2
    cases is
    · show n.lo < _; omega
    · show n.hi < _; omega

theorem part_var {vars : Nat} {ns : List Node} (ok : Ok vars ns) {f v : Nat} (hf : f < ns.length) (hv : v < vars) (hle : v ≤ var ns f) (is : Bool) : v + 1 ≤ var ns (part ns f v is) := by
  obtain ⟨n, hn⟩ := get_of_lt hf
  unfold part
  simp only [hn]
  rw [var_some hn] at hle
  split
  · rw [var_some hn]; omega
  · rename_i hnv
    have hnv' : n.v = v := Classical.byContradiction hnv
    have h2 : 2 ≤ f := (var_lt_iff ok hf).1 (by rw [var_some hn]; omega)
    have hb := ok.node f n hn h2
    cases is
    · show v + 1 ≤ var ns n.lo; omega
    · show v + 1 ≤ var ns n.hi; omega

theorem part_den {vars : Nat} {ns : List Node} (ok : Ok vars ns) {f v : Nat} (hf : f < ns.length) (hv : v < vars) (hle : v ≤ var ns f) (is : Bool) : den ns (part ns f v is) = fun x => den ns f (upd x v is) := by
  obtain ⟨n, hn⟩ := get_of_lt hf
  unfold part
  simp only [hn]
  rw [var_some hn] at hle
  funext x
  split
  · exact indep ok f hf _ _ (fun u hu => by rw [var_some hn] at hu; rw [upd_other _ _ (by omega)])
  · rename_i hnv
    have hnv' : n.v = v := Classical.byContradiction hnv
    subst hnv'
    have h2 : 2 ≤ f := (var_lt_iff ok hf).1 (by rw [var_some hn]; omega)
    cases is
    · exact (den_lo ok hn h2 x).symm
    · exact (den_hi ok hn h2 x).symm

end Go.Proofs.Ytidikopjfpioaaa.Bdd
