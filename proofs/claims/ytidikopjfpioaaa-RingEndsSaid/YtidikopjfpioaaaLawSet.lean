/- A law's own box is written, beside a memory. -/
import Derived.Test.YtidikopjfpioaaaLawFB
set_option linter.unusedVariables false
set_option linter.unusedSimpArgs false
namespace Go.Proofs.Ytidikopjfpioaaa
open Go.RowKit Go.Maps

theorem nd_ne : ∀ {L : List (Nat × Array Value)}, (L.map (·.1)).Nodup → ∀ {i : Nat} {N : Nat} {vs : Array Value}, L[i]? = some (N, vs) → ∀ (j : Nat) (y : Nat × Array Value), L[j]? = some y → j ≠ i → y.1 ≠ N
  | [], _, i, N, vs, hi, _, _, _, _ => by simp at hi
  | z :: t, h, i, N, vs, hi, j, y, hj, hne => by
    simp only [List.map_cons, List.nodup_cons] at h
    cases i with
    | zero =>
      cases j with
      | zero => exact absurd rfl hne
      | succ j =>
        simp only [List.getElem?_cons_zero, Option.some.injEq] at hi
        simp only [List.getElem?_cons_succ] at hj
        subst hi
        intro e
        exact h.1 (List.mem_map.2 ⟨y, List.mem_of_getElem? hj, e⟩)
    | succ i =>
      cases j with
      | zero =>
        simp only [List.getElem?_cons_zero, Option.some.injEq] at hj
        simp only [List.getElem?_cons_succ] at hi
        subst hj
        intro e
        exact h.1 (List.mem_map.2 ⟨(N, vs), List.mem_of_getElem? hi, e.symm⟩)
      | succ j =>
        simp only [List.getElem?_cons_succ] at hi hj
        exact nd_ne h.2 hi j y hj (by omega)
theorem BX.set {W w : World} {L : List (Nat × Array Value)} (h : BX W L w) (i : Nat) {N : Nat} {vs : Array Value} (hx : L[i]? = some (N, vs)) (hnd : ∀ j x, L[j]? = some x → j ≠ i → x.1 ≠ N) (hN : W.heap.size ≤ N) (j : Nat) (v : Value) :
    BX W (L.set i (N, vs.setIfInBounds j v)) (w.setCell ⟨N, j, none⟩ v) := by
  refine ⟨h.bl.setCell hN v, fun x hm => ?_⟩
  obtain ⟨q, hq⟩ := List.mem_iff_getElem?.1 hm
  have hsz : (w.setCell ⟨N, j, none⟩ v).heap.size = w.heap.size := by simp [World.setCell]
  by_cases e : q = i
  · subst e
    have hl : q < L.length := (List.getElem?_eq_some_iff.1 hx).1
    rw [List.getElem?_set_self hl] at hq
    obtain rfl := Option.some.inj hq
    obtain ⟨h1, h2⟩ := h.bx _ (List.mem_of_getElem? hx)
    exact ⟨h1.set j v, by rw [hsz]; exact h2⟩
  · rw [List.getElem?_set_ne (Ne.symm e)] at hq
    obtain ⟨h1, h2⟩ := h.bx _ (List.mem_of_getElem? hq)
    exact ⟨h1.far _ _ (Ne.symm (hnd q x hq e)), by rw [hsz]; exact h2⟩
/-- A net stands where none of its blocks is written. -/
theorem NetAt.setFar {w : World} {B K : Nat} {m : NetV} (h : NetAt w B m) (ho : NetOn K m) {N : Nat} (hN : N < K) (j : Nat) (v : Value) : NetAt (w.setCell ⟨N, j, none⟩ v) B m :=
  h.stay (StayOn.of_set ⟨N, j, none⟩ v) (fun a ha => by have := ho.d a ha; show a.block ≠ N; omega) (fun a ha => by have := ho.l a ha; show a.block ≠ N; omega) (fun d hd => (ho.o d hd).weak (fun k hk => by show k ≠ N; omega)) (Nat.le_refl _)
theorem MemAt.setFar {w : World} {g : Nat} {n : NetV} {f o b : Nat} {M : MS} {k K : Nat} (h : MemAt w g n f o b M k) (ho : NetOn K n) {N : Nat} (hN : N < K) (hg : g ≠ N) (h3 : ¬ Is3 f o b N) (j : Nat) (v : Value) : MemAt (w.setCell ⟨N, j, none⟩ v) g n f o b M k := by
  have hc : ∀ x u, w.cell? ⟨g, x, none⟩ = some u → (w.setCell ⟨N, j, none⟩ v).cell? ⟨g, x, none⟩ = some u := fun x u hu => (StayOn.of_set ⟨N, j, none⟩ v) ⟨g, x, none⟩ u hg hu
  have hsz : (w.setCell ⟨N, j, none⟩ v).heap.size = w.heap.size := by simp [World.setCell]
  have hb : ∀ x, x ≠ N → (w.setCell ⟨N, j, none⟩ v).heap[x]? = w.heap[x]? := fun x hx => Below.heap_setCell w ⟨N, j, none⟩ v x hx
  exact ⟨hc _ _ h.c0, hc _ _ h.c1, hc _ _ h.c2, hc _ _ h.c3, hc _ _ h.c4, by rw [hsz]; exact h.net.setFar ho hN j v, h.mf.same (hb f (fun e => h3 (Or.inl e.symm))), h.mo.same (hb o (fun e => h3 (Or.inr (Or.inl e.symm)))), h.mb.same (hb b (fun e => h3 (Or.inr (Or.inr e.symm)))),
    h.nfo, h.nfb, h.nob, h.lf, h.lo, h.lb, h.oo, h.ob⟩
theorem FA.set {W w : World} {L : List (Nat × Array Value)} {g : Nat} {n : NetV} {f o b : Nat} {M : MS} {k K : Nat} (h : FA W L g n f o b M k w) (ho : NetOn K n) (i : Nat) {N : Nat} {vs : Array Value} (hx : L[i]? = some (N, vs)) (hnd : ∀ j x, L[j]? = some x → j ≠ i → x.1 ≠ N) (hN : W.heap.size ≤ N) (hK : N < K) (hg : g ≠ N) (j : Nat) (v : Value) :
    FA W (L.set i (N, vs.setIfInBounds j v)) g n f o b M k (w.setCell ⟨N, j, none⟩ v) :=
  ⟨h.box.set i hx hnd hN j v, h.mem.setFar ho hK hg (h.ap _ (List.mem_of_getElem? hx)) j v, fun x hm => by
    obtain ⟨q, hq⟩ := List.mem_iff_getElem?.1 hm
    by_cases e : q = i
    · subst e
      have hl : q < L.length := (List.getElem?_eq_some_iff.1 hx).1
      rw [List.getElem?_set_self hl] at hq
      obtain rfl := Option.some.inj hq
      exact h.ap (N, vs) (List.mem_of_getElem? hx)
    · rw [List.getElem?_set_ne (Ne.symm e)] at hq
      exact h.ap _ (List.mem_of_getElem? hq), h.lo⟩
theorem FB.at6 {W w w0 : World} {L Z : List (Nat × Array Value)} {g : Nat} {n : NetV} {f o b : Nat} {M M' : MS} {k k' : Nat} (h : FB W L g n f o b M k w0 Z M' k' w) (i : Nat) {N : Nat} {x y z u s t : Int} (hx : L[i]? = some (N, #[.int .i64 x, .int .i64 y, .int .i64 z, .int .i64 u, .int .i64 s, .int .i64 t])) :
    (w.cell? ⟨N, 2, none⟩ = some (.int .i64 z) ∧ w.cell? ⟨N, 3, none⟩ = some (.int .i64 u) ∧ w.cell? ⟨N, 4, none⟩ = some (.int .i64 s) ∧ w.cell? ⟨N, 5, none⟩ = some (.int .i64 t)) ∧ N ≠ w.heap.size ∧ w.heap.size ≠ N := by
  have q := h.fa.box.bx _ (List.mem_of_getElem? hx)
  exact ⟨⟨q.1.1 2 _ rfl, q.1.1 3 _ rfl, q.1.1 4 _ rfl, q.1.1 5 _ rfl⟩, Nat.ne_of_lt q.2, Ne.symm (Nat.ne_of_lt q.2)⟩
theorem cells7 {w : World} {N : Nat} {s : ByteArray} {k a p : Int} {x y z : Value} (h : BoxV w N #[.string s, .int .i64 k, .int .i64 a, .int .u8 p, x, y, z]) : (w.cell? ⟨N, 0, none⟩ = some (.string s) ∧ w.cell? ⟨N, 1, none⟩ = some (.int .i64 k) ∧ w.cell? ⟨N, 2, none⟩ = some (.int .i64 a) ∧ w.cell? ⟨N, 3, none⟩ = some (.int .u8 p) ∧ w.cell? ⟨N, 4, none⟩ = some x ∧ w.cell? ⟨N, 5, none⟩ = some y ∧ w.cell? ⟨N, 6, none⟩ = some z) ∧ w.frozen? ⟨N, 2, none⟩ = false ∧ w.frozen? ⟨N, 4, none⟩ = false :=
  ⟨⟨h.1 0 _ rfl, h.1 1 _ rfl, h.1 2 _ rfl, h.1 3 _ rfl, h.1 4 _ rfl, h.1 5 _ rfl, h.1 6 _ rfl⟩, h.2 _, h.2 _⟩
theorem FA.two {W w : World} {x y : Nat × Array Value} {L : List (Nat × Array Value)} {g : Nat} {n : NetV} {f o b : Nat} {M : MS} {k : Nat} (h : FA W (x :: y :: L) g n f o b M k w) : FA W (y :: x :: L) g n f o b M k w :=
  ⟨⟨h.box.bl, fun z hz => h.box.bx z (by simp only [List.mem_cons] at hz ⊢; rcases hz with e | e | e <;> simp [e])⟩, h.mem, fun z hz => h.ap z (by simp only [List.mem_cons] at hz ⊢; rcases hz with e | e | e <;> simp [e]), h.lo⟩

/-! ### the balancer's chain -/
def balD (ad : Int) (bs : List Int) : Dev := ⟨⟨#[]⟩, 5, ad, 0, bs, [], []⟩
def balV (A : Option Addr) (n c : Nat) (bs : List Int) (ad : Int) : DevV := ⟨⟨#[]⟩, 5, ad, 0, A, n, c, bs, none, 0, 0, [], none, 0, 0, []⟩
theorem balAt {w : World} {B : Nat} {A : Option Addr} {n c : Nat} {bs : List Int} {ad : Int} (h : IntsAt w B A n bs) (hc : n ≤ c ∧ c ≤ maxLen) (had : i64ok ad) : DevAt w B (balV A n c bs ad) :=
  ⟨Nat.zero_le _, by simp [balV, i64ok], had, by simp [balV], h, ⟨rfl, fun r hr => by simp [balV] at hr, fun h0 => absurd h0 (Nat.lt_irrefl _)⟩, ⟨rfl, fun h0 => absurd h0 (Nat.lt_irrefl _)⟩, fun r hr => by simp [balV] at hr, hc, by simp [balV], by simp [balV]⟩
theorem backsOk_mem : ∀ (l : List Int) (ad : Int) (pre : List Int), backsOk ad pre l = true → ∀ b ∈ l, 0 ≤ b ∧ b < 16
  | [], _, _, _, b, hb => by cases hb
  | x :: t, ad, pre, h, b, hb => by
    simp only [backsOk, Bool.and_eq_true, decide_eq_true_eq] at h
    rcases List.mem_cons.1 hb with rfl | hb
    · exact ⟨h.1.1.1.1, h.1.1.1.2⟩
    · exact backsOk_mem t ad _ h.2 b hb
theorem bal_ok {ad : Int} {bs : List Int} (h : devE ⟨⟨#[100]⟩, 5, ad, 0, bs, [], []⟩ = 0) : 0 ≤ ad ∧ ad < 16 ∧ (∀ b ∈ bs, 0 ≤ b ∧ b < 16) ∧ bs.length ≤ 3 := by
  have q := devE_ok h
  have h1 := q.ar
  have h2 := q.bb
  simp [addrB] at h1
  simp only [backsB, Bool.and_eq_true] at h2
  exact ⟨h1.1, h1.2, backsOk_mem _ _ _ h2.1, q.bl⟩
theorem bal_net {ad : Int} {bs : List Int} (h : devE ⟨⟨#[100]⟩, 5, ad, 0, bs, [], []⟩ = 0) : netE (chainD (balD ad bs)) chainL = 0 := chain_net (balD ad bs) h rfl
theorem bal_bad_s {ad : Int} {bs : List Int} {M : MS} {p : P4} {ch : Int} (hp : rightB p = true) (hd : p.dst = ad) (hM : M.B (1, p) = none) (hch : ch < 0 ∨ bs.length ≤ ch.toNat) : handS (chainD (balD ad bs)) chainL M 1 0 p ch = .bad 1 := by
  rw [chain_hand _ _ _ _ _ (by simp [balD, portsF]) hp]
  have e : (if ch < 0 then none else bs[ch.toNat]?) = none := by
    by_cases h : ch < 0
    · rw [if_pos h]
    · rw [if_neg h, List.getElem?_eq_none]; omega
  simp [outS, balD, balF, goS, hd, hM, e]
theorem bal_new_s {ad : Int} {bs : List Int} {M : MS} {p : P4} {ch b : Int} (hp : rightB p = true) (hd : p.dst = ad) (hM : M.B (1, p) = none) (h0 : 0 ≤ ch) (hch : bs[ch.toNat]? = some b) : handS (chainD (balD ad bs)) chainL M 1 0 p ch = ⟨0, (2, 0), ⟨p.src, b, p.sport, p.dport⟩, .back (1, p) b⟩ := by
  rw [chain_hand _ _ _ _ _ (by simp [balD, portsF]) hp]
  have e : (if ch < 0 then none else bs[ch.toNat]?) = some b := by rw [if_neg (by omega), hch]
  simp [outS, balD, balF, goS, hd, hM, e, peer1]
theorem bal_old_s {ad : Int} {bs : List Int} {M : MS} {p : P4} {ch b : Int} (hp : rightB p = true) (hd : p.dst = ad) (hM : M.B (1, p) = some b) : handS (chainD (balD ad bs)) chainL M 1 0 p ch = ⟨0, (2, 0), ⟨p.src, b, p.sport, p.dport⟩, .back (1, p) b⟩ := by
  rw [chain_hand _ _ _ _ _ (by simp [balD, portsF]) hp]
  simp [outS, balD, balF, goS, hd, hM, peer1]
theorem bal_in_s {ad : Int} {bs : List Int} {M : MS} {q : P4} {ch : Int} (hp : rightB q = true) (hM : M.B (1, ⟨q.dst, ad, q.dport, q.sport⟩) = some q.src) : handS (chainD (balD ad bs)) chainL M 1 1 q ch = ⟨0, (0, 0), ⟨ad, q.dst, q.sport, q.dport⟩, .nothing⟩ := by
  rw [chain_hand _ _ _ _ _ (by simp [balD, portsF]) hp]
  simp [outS, balD, balF, goS, hM, peer0]
theorem bal_forget (ad : Int) (bs : List Int) (M : MS) (p : P4) (q : Int) : forgetS (chainD (balD ad bs)) M 1 p q = (if (M.B (1, p)).isSome = true then 0 else 7, M.drop (.back (1, p))) := rfl
end Go.Proofs.Ytidikopjfpioaaa
