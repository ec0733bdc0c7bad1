/- Decision diagrams as lists of nodes: what a node's number means, and that two numbers mean the same just if they are the same. No program in sight. -/
namespace Go.Proofs.Ytidikopjfpioaaa.Bdd

abbrev Asg := Nat → Bool
abbrev Fn := Asg → Bool

structure Node where
  v : Nat
  lo : Nat
  hi : Nat

theorem Node.ext' {a b : Node} (h1 : a.v = b.v) (h2 : a.lo = b.lo) (h3 : a.hi = b.hi) : a = b := by
  cases a; cases b; simp_all

def denN (ns : List Node) : Nat → Nat → Fn
  | 0, _ => fun _ => false
  | k + 1, f => fun x => if f = 0 then false else if f = 1 then true else
      match ns[f]? with
      | none => false
      | some n => if x n.v then denN ns k n.hi x else denN ns k n.lo x

def den (ns : List Node) (f : Nat) : Fn := denN ns (f + 1) f

def var (ns : List Node) (f : Nat) : Nat :=
  match ns[f]? with
  | some n => n.v
  | none => 0

theorem var_some {ns : List Node} {f : Nat} {n : Node} (h : ns[f]? = some n) : var ns f = n.v := by
  simp [var, h]

structure Ok (vars : Nat) (ns : List Node) : Prop where
  two : 2 ≤ ns.length
  zero : ns[0]? = some ⟨vars, 0, 0⟩
  one : ns[1]? = some ⟨vars, 0, 0⟩
  node : ∀ (i : Nat) (n : Node), ns[i]? = some n → 2 ≤ i → n.v < vars ∧ n.lo < i ∧ n.hi < i ∧ n.lo ≠ n.hi ∧ n.v < var ns n.lo ∧ n.v < var ns n.hi
  inj : ∀ (i j : Nat) (n : Node), 2 ≤ i → 2 ≤ j → ns[i]? = some n → ns[j]? = some n → i = j

section
variable {vars : Nat} {ns : List Node}

theorem get_lt {f : Nat} {n : Node} (h : ns[f]? = some n) : f < ns.length := by
  rcases Nat.lt_or_ge f ns.length with h1 | h1
  · exact h1
  · rw [List.getElem?_eq_none h1] at h; cases h

theorem get_of_lt {f : Nat} (h : f < ns.length) : ∃ n, ns[f]? = some n := ⟨ns[f], List.getElem?_eq_getElem h⟩

theorem den_zero : den ns 0 = fun _ => false := by
  funext x; simp [den, denN]

theorem den_one : den ns 1 = fun _ => true := by
  funext x; simp [den, denN]

theorem denN_stable (ok : Ok vars ns) : ∀ (k f : Nat), f < k → f < ns.length → denN ns k f = denN ns (f + 1) f := by
  intro k
  induction k using Nat.strongRecOn with
  | ind k ih =>
    intro f hk hf
    match k, hk with
    | k + 1, hk =>
      funext x
      obtain ⟨n, hn⟩ := get_of_lt hf
      by_cases h0 : f = 0
      · subst h0; simp [denN]
      by_cases h1 : f = 1
      · subst h1; simp [denN]
      have hb := ok.node f n hn (by omega)
      have e1 := ih k (by omega) n.hi (by omega) (by omega)
      have e2 := ih k (by omega) n.lo (by omega) (by omega)
      have e3 := ih f (by omega) n.hi (by omega) (by omega)
      have e4 := ih f (by omega) n.lo (by omega) (by omega)
      simp only [denN, h0, h1, hn, if_false]
      rw [e1, e2, e3, e4]

theorem den_node (ok : Ok vars ns) {f : Nat} {n : Node} (hn : ns[f]? = some n) (h2 : 2 ≤ f) (x : Asg) :
    den ns f x = if x n.v then den ns n.hi x else den ns n.lo x := by
  have hf := get_lt hn
  have hb := ok.node f n hn h2
  have e3 := denN_stable ok f n.hi (by omega) (by omega)
  have e4 := denN_stable ok f n.lo (by omega) (by omega)
  have h0 : f ≠ 0 := by omega
  have h1 : f ≠ 1 := by omega
  show denN ns (f + 1) f x = _
  simp only [denN, h0, h1, hn, if_false]
  rw [e3, e4]
  rfl

theorem var_zero (ok : Ok vars ns) : var ns 0 = vars := var_some ok.zero
theorem var_one (ok : Ok vars ns) : var ns 1 = vars := var_some ok.one

theorem var_le (ok : Ok vars ns) {f : Nat} (hf : f < ns.length) : var ns f ≤ vars := by
  obtain ⟨n, hn⟩ := get_of_lt hf
  rw [var_some hn]
  by_cases h2 : 2 ≤ f
  · exact Nat.le_of_lt (ok.node f n hn h2).1
  · have : f = 0 ∨ f = 1 := by omega
    rcases this with rfl | rfl
    · have := ok.zero; rw [hn] at this; cases this; exact Nat.le_refl _
    · have := ok.one; rw [hn] at this; cases this; exact Nat.le_refl _

theorem var_lt_iff (ok : Ok vars ns) {f : Nat} (hf : f < ns.length) : var ns f < vars ↔ 2 ≤ f := by
  obtain ⟨n, hn⟩ := get_of_lt hf
  constructor
  · intro h
    by_cases h2 : 2 ≤ f
    · exact h2
    · have : f = 0 ∨ f = 1 := by omega
      rcases this with rfl | rfl
      · rw [var_zero ok] at h; omega
      · rw [var_one ok] at h; omega
  · intro h2
    rw [var_some hn]; exact (ok.node f n hn h2).1

/-- A function hangs on no variable ahead of its own. -/
theorem indep (ok : Ok vars ns) : ∀ (f : Nat), f < ns.length → ∀ x y : Asg, (∀ u, var ns f ≤ u → x u = y u) → den ns f x = den ns f y := by
  intro f
  induction f using Nat.strongRecOn with
  | ind f ih =>
    intro hf x y hxy
    by_cases h0 : f = 0
    · subst h0; simp [den_zero]
    by_cases h1 : f = 1
    · subst h1; simp [den_one]
    obtain ⟨n, hn⟩ := get_of_lt hf
    have hb := ok.node f n hn (by omega)
    have hv : var ns f = n.v := var_some hn
    rw [den_node ok hn (by omega), den_node ok hn (by omega), hxy n.v (by omega),
      ih n.hi (by omega) (by omega) x y (fun u hu => hxy u (by omega)), ih n.lo (by omega) (by omega) x y (fun u hu => hxy u (by omega))]

def upd (x : Asg) (v : Nat) (b : Bool) : Asg := fun u => if u = v then b else x u

theorem upd_same (x : Asg) (v : Nat) (b : Bool) : upd x v b v = b := by simp [upd]
theorem upd_other (x : Asg) {u v : Nat} (b : Bool) (h : u ≠ v) : upd x v b u = x u := by simp [upd, h]

/-- What a node's function is with its variable false, or true. -/
theorem den_hi (ok : Ok vars ns) {f : Nat} {n : Node} (hn : ns[f]? = some n) (h2 : 2 ≤ f) (x : Asg) : den ns f (upd x n.v true) = den ns n.hi x := by
  have hf := get_lt hn
  have hb := ok.node f n hn h2
  rw [den_node ok hn h2, upd_same, if_pos rfl]
  exact indep ok n.hi (by omega) _ _ (fun u hu => upd_other _ _ (by omega))

theorem den_lo (ok : Ok vars ns) {f : Nat} {n : Node} (hn : ns[f]? = some n) (h2 : 2 ≤ f) (x : Asg) : den ns f (upd x n.v false) = den ns n.lo x := by
  have hf := get_lt hn
  have hb := ok.node f n hn h2
  rw [den_node ok hn h2, upd_same, if_neg (by simp)]
  exact indep ok n.lo (by omega) _ _ (fun u hu => upd_other _ _ (by omega))

theorem canon_aux (ok : Ok vars ns) : ∀ (k f g : Nat), f < k → g < k → f < ns.length → g < ns.length → den ns f = den ns g → f = g := by
  intro k
  induction k with
  | zero => intro f g h; omega
  | succ k ih =>
    -- where the first one's variable is ahead of the other's: it would not hang on it
    have main : ∀ f g, f < k + 1 → f < ns.length → g < ns.length → den ns f = den ns g → ¬ var ns f < var ns g := by
      intro f g hfk hf hg he hlt
      have h2 : 2 ≤ f := (var_lt_iff ok hf).1 (Nat.lt_of_lt_of_le hlt (var_le ok hg))
      obtain ⟨n, hn⟩ := get_of_lt hf
      have hb := ok.node f n hn h2
      have hv : var ns f = n.v := var_some hn
      refine hb.2.2.2.1 (ih n.lo n.hi (by omega) (by omega) (by omega) (by omega) ?_)
      funext x
      rw [← den_lo ok hn h2, ← den_hi ok hn h2, he]
      exact indep ok g hg _ _ (fun u hu => by rw [upd_other _ _ (by omega), upd_other _ _ (by omega)])
    intro f g hfk hgk hf hg he
    have hv : var ns f = var ns g := by
      have h1 := main f g hfk hf hg he
      have h2 := main g f hgk hg hf he.symm
      omega
    by_cases h2 : 2 ≤ f
    · have hg2 : 2 ≤ g := by
        have := (var_lt_iff ok hf).2 h2
        exact (var_lt_iff ok hg).1 (by omega)
      obtain ⟨n, hn⟩ := get_of_lt hf
      obtain ⟨m, hm⟩ := get_of_lt hg
      have hb := ok.node f n hn h2
      have hc := ok.node g m hm hg2
      have e : n.v = m.v := by rw [← var_some hn, ← var_some hm]; exact hv
      have e1 : n.lo = m.lo := ih n.lo m.lo (by omega) (by omega) (by omega) (by omega) (by
        funext x; rw [← den_lo ok hn h2, ← den_lo ok hm hg2, he, e])
      have e2 : n.hi = m.hi := ih n.hi m.hi (by omega) (by omega) (by omega) (by omega) (by
        funext x; rw [← den_hi ok hn h2, ← den_hi ok hm hg2, he, e])
      have enm : n = m := Node.ext' e e1 e2
      subst enm
      exact ok.inj f g n h2 hg2 hn hm
    · have hg2 : ¬ 2 ≤ g := by
        intro hg2
        have := (var_lt_iff ok hg).2 hg2
        exact h2 ((var_lt_iff ok hf).1 (by omega))
      have hne : den ns 0 ≠ den ns 1 := by
        rw [den_zero, den_one]; intro h; have := congrFun h (fun _ => false); cases this
      have hf' : f = 0 ∨ f = 1 := by omega
      have hg' : g = 0 ∨ g = 1 := by omega
      rcases hf' with rfl | rfl <;> rcases hg' with rfl | rfl
      · rfl
      · exact absurd he hne
      · exact absurd he.symm hne
      · rfl

/-- BRYANT: two functions are the same just if their numbers are. -/
theorem canon (ok : Ok vars ns) {f g : Nat} (hf : f < ns.length) (hg : g < ns.length) : den ns f = den ns g ↔ f = g :=
  ⟨fun h => canon_aux ok (max f g + 1) f g (by omega) (by omega) hf hg h, fun h => by rw [h]⟩

/-- If a function hangs on no variable ahead of k, its node stands at k or behind it. -/
theorem var_ge (ok : Ok vars ns) {f k : Nat} (hf : f < ns.length) (hk : k ≤ vars) (h : ∀ x y : Asg, (∀ u, k ≤ u → x u = y u) → den ns f x = den ns f y) : k ≤ var ns f := by
  rcases Nat.lt_or_ge (var ns f) k with hlt | hge
  · exfalso
    have h2 : 2 ≤ f := (var_lt_iff ok hf).1 (by omega)
    obtain ⟨n, hn⟩ := get_of_lt hf
    have hb := ok.node f n hn h2
    have hv : var ns f = n.v := var_some hn
    refine hb.2.2.2.1 ((canon ok (by omega) (by omega)).1 ?_)
    funext x
    rw [← den_lo ok hn h2, ← den_hi ok hn h2]
    exact h _ _ (fun u hu => by rw [upd_other _ _ (by omega), upd_other _ _ (by omega)])
  · exact hge

/-! ### more nodes behind -/
theorem get_append {f : Nat} (more : List Node) (hf : f < ns.length) : (ns ++ more)[f]? = ns[f]? := List.getElem?_append_left hf

theorem var_append {f : Nat} (more : List Node) (hf : f < ns.length) : var (ns ++ more) f = var ns f := by
  simp only [var, get_append more hf]

theorem denN_append (ok : Ok vars ns) (more : List Node) : ∀ (k f : Nat), f < ns.length → denN (ns ++ more) k f = denN ns k f := by
  intro k
  induction k with
  | zero => intro f _; rfl
  | succ k ih =>
    intro f hf
    funext x
    by_cases h0 : f = 0
    · subst h0; simp [denN]
    by_cases h1 : f = 1
    · subst h1; simp [denN]
    obtain ⟨n, hn⟩ := get_of_lt hf
    have hb := ok.node f n hn (by omega)
    simp only [denN, h0, h1, get_append more hf, hn, if_false]
    rw [ih n.hi (by omega), ih n.lo (by omega)]

theorem den_append (ok : Ok vars ns) (more : List Node) {f : Nat} (hf : f < ns.length) : den (ns ++ more) f = den ns f :=
  denN_append ok more (f + 1) f hf

/-- A node that isn't there, put behind. -/
theorem Ok.push (ok : Ok vars ns) {n : Node} (hv : n.v < vars) (hlo : n.lo < ns.length) (hhi : n.hi < ns.length) (hne : n.lo ≠ n.hi) (h1 : n.v < var ns n.lo) (h2 : n.v < var ns n.hi)
    (hnew : ∀ i, 2 ≤ i → ns[i]? ≠ some n) : Ok vars (ns ++ [n]) := by
  have h2l := ok.two
  have old : ∀ i m, (ns ++ [n])[i]? = some m → (i < ns.length ∧ ns[i]? = some m) ∨ (i = ns.length ∧ m = n) := by
    intro i m hm
    rcases Nat.lt_or_ge i ns.length with hi | hi
    · rw [get_append _ hi] at hm; exact .inl ⟨hi, hm⟩
    · right
      have hlt := get_lt hm
      simp at hlt
      have : i = ns.length := by omega
      subst this
      simp at hm
      exact ⟨rfl, hm.symm⟩
  refine ⟨by simp; omega, by rw [get_append _ (by omega)]; exact ok.zero, by rw [get_append _ (by omega)]; exact ok.one, ?_, ?_⟩
  · intro i m hm hi
    rcases old i m hm with ⟨hl, hm'⟩ | ⟨rfl, rfl⟩
    · have hb := ok.node i m hm' hi
      rw [var_append _ (by omega), var_append _ (by omega)]
      exact hb
    · rw [var_append _ hlo, var_append _ hhi]
      exact ⟨hv, hlo, hhi, hne, h1, h2⟩
  · intro i j m hi hj him hjm
    rcases old i m him with ⟨hl, hm'⟩ | ⟨rfl, rfl⟩ <;> rcases old j m hjm with ⟨hl2, hm2⟩ | ⟨rfl, e⟩
    · exact ok.inj i j m hi hj hm' hm2
    · exact absurd (e ▸ hm') (hnew i hi)
    · exact absurd hm2 (hnew j hj)
    · rfl

theorem get_push (n : Node) : (ns ++ [n])[ns.length]? = some n := by simp

/-! ### how many nodes: those that were made are parts of what was asked for -/
/-- A part of F: the variables ahead of k put to something. -/
def Cof (F G : Fn) : Prop := ∃ (k : Nat) (s : Asg), G = fun x => F (fun u => if u < k then s u else x u)

theorem Cof.self (F : Fn) : Cof F F := ⟨0, fun _ => false, by funext x; simp⟩

theorem Cof.trans {F G K : Fn} (h : Cof F G) (h' : Cof G K) : Cof F K := by
  obtain ⟨k, s, rfl⟩ := h
  obtain ⟨k', s', rfl⟩ := h'
  refine ⟨max k k', fun u => if u < k then s u else s' u, ?_⟩
  funext x
  refine congrArg F ?_
  funext u
  by_cases h1 : u < k <;> by_cases h2 : u < k' <;> simp [h1, h2] <;> omega

/-- With a variable ahead of which F hangs on nothing put to something. -/
theorem Cof.upd {F : Fn} {v : Nat} (h : ∀ x y : Asg, (∀ u, v ≤ u → x u = y u) → F x = F y) (b : Bool) : Cof F (fun x => F (upd x v b)) := by
  refine ⟨v + 1, fun _ => b, ?_⟩
  funext x
  refine h _ _ (fun u hu => ?_)
  by_cases e : u = v
  · subst e; simp [Bdd.upd]
  · simp [Bdd.upd, e]; omega

theorem length_le_of_subset {α : Type} : ∀ (l L : List α), l.Nodup → (∀ a ∈ l, a ∈ L) → l.length ≤ L.length := by
  intro l
  induction l with
  | nil => intro L _ _; simp
  | cons a l ih =>
    intro L hn hs
    have ha : a ∈ L := hs a (by simp)
    obtain ⟨s, t, rfl⟩ := List.append_of_mem ha
    have hn' := List.nodup_cons.1 hn
    have := ih (s ++ t) hn'.2 (fun b hb => by
      have hb' := hs b (by simp [hb])
      have hne : b ≠ a := fun e => hn'.1 (e ▸ hb)
      simp only [List.mem_append, List.mem_cons] at hb' ⊢
      rcases hb' with h | h | h
      · exact .inl h
      · exact absurd h hne
      · exact .inr h)
    simp only [List.length_append, List.length_cons] at this ⊢
    omega

end
end Go.Proofs.Ytidikopjfpioaaa.Bdd
