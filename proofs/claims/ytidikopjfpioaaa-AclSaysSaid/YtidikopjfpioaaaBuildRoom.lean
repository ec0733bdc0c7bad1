/- How many nodes a match takes at most. -/
import Derived.Test.YtidikopjfpioaaaBuildLaw
set_option linter.unusedVariables false
namespace Go.Proofs.Ytidikopjfpioaaa
open Go.RowKit Bdd

theorem cof_var {u : Nat} {G : Bdd.Fn} (h : Cof (fun x : Asg => x u) G) (hG : ∃ x y, G x ≠ G y) : G = fun x => x u := by
  obtain ⟨k, s, rfl⟩ := h
  by_cases hu : u < k
  · simp [hu] at hG
  · funext x; simp [hu]

theorem bitF_below (set : Nat) : ∀ (d v n : Nat), Bdd.Below (v + d) (bitF set d v n) := by
  intro d
  induction d with
  | zero => intro v n x y _; rfl
  | succ d ih =>
    intro v n x y h
    simp only [bitF, iteF, h v (by omega), ih (v + 1) _ x y (fun u hu => h u (by omega))]

theorem iteF_below {K : Nat} {F G H : Bdd.Fn} (hF : Bdd.Below K F) (hG : Bdd.Below K G) (hH : Bdd.Below K H) : Bdd.Below K (iteF F G H) := fun x y h => by
  simp only [iteF, hF x y h, hG x y h, hH x y h]

def roomL (s d p q : Nat) : List Bdd.Fn := (List.range 14).map (fun u => fun x : Asg => x u) ++ (partsOf (bitF s 4 0 0) 4 ++ (partsOf (bitF p 3 8 0) 11 ++ (partsOf (bitF d 4 4 0) 8 ++ (partsOf (bitF q 3 11 0) 14 ++
  (partsOf (outs ((partL s d p q).take 1)) 4 ++ (partsOf (outs ((partL s d p q).take 2)) 11 ++ (partsOf (outs ((partL s d p q).take 3)) 11 ++ partsOf (outs ((partL s d p q).take 4)) 14)))))))

theorem roomL_length (s d p q : Nat) : (roomL s d p q).length = 39206 := by
  have h := partsOf_length
  have a1 := h (bitF s 4 0 0) 4
  have a2 := h (bitF p 3 8 0) 11
  have a3 := h (bitF d 4 4 0) 8
  have a4 := h (bitF q 3 11 0) 14
  have b1 := h (outs ((partL s d p q).take 1)) 4
  have b2 := h (outs ((partL s d p q).take 2)) 11
  have b3 := h (outs ((partL s d p q).take 3)) 11
  have b4 := h (outs ((partL s d p q).take 4)) 14
  simp only [roomL, List.length_append, List.length_map, List.length_range]
  omega

theorem outs_below (s d p q : Nat) : Bdd.Below 4 (outs ((partL s d p q).take 1)) ∧ Bdd.Below 11 (outs ((partL s d p q).take 2)) ∧ Bdd.Below 11 (outs ((partL s d p q).take 3)) ∧ Bdd.Below 14 (outs ((partL s d p q).take 4)) := by
  have c0 : ∀ K b, Bdd.Below K (fun _ => b) := fun K b => Bdd.Below.const b K
  have h1 : Bdd.Below 4 (outs ((partL s d p q).take 1)) := iteF_below (F := fun _ => true) (G := bitF s 4 0 0) (H := fun _ => false) (c0 _ _) (bitF_below s 4 0 0) (c0 _ _)
  have h2 : Bdd.Below 11 (outs ((partL s d p q).take 2)) := iteF_below (F := outs ((partL s d p q).take 1)) (G := bitF p 3 8 0) (H := fun _ => false) (h1.mono (by omega)) (bitF_below p 3 8 0) (c0 _ _)
  have h3 : Bdd.Below 11 (outs ((partL s d p q).take 3)) := iteF_below (F := outs ((partL s d p q).take 2)) (G := bitF d 4 4 0) (H := fun _ => false) h2 ((bitF_below d 4 4 0).mono (by omega)) (c0 _ _)
  have h4 : Bdd.Below 14 (outs ((partL s d p q).take 4)) := iteF_below (F := outs ((partL s d p q).take 3)) (G := bitF q 3 11 0) (H := fun _ => false) (h3.mono (by omega)) (bitF_below q 3 11 0) (c0 _ _)
  exact ⟨h1, h2, h3, h4⟩

theorem roomL_mem {s d p q : Nat} {G : Bdd.Fn} (h : NewB (partL s d p q) G) (hG : ∃ x y, G x ≠ G y) (hb : Bdd.Below 14 G) : G ∈ roomL s d p q := by
  obtain ⟨o1, o2, o3, o4⟩ := outs_below s d p q
  rcases h with ⟨u, hu⟩ | ⟨x, hx, hc⟩ | ⟨k, hk, hc⟩
  · have e := cof_var hu hG
    have hu14 : u < 14 := by
      refine Classical.byContradiction fun hn => ?_
      have := hb (fun _ => true) (fun v => decide (v < 14)) (fun v hv => by simp [hv])
      rw [e] at this
      simp at this
      omega
    simp only [roomL, List.mem_append]
    exact .inl (List.mem_map.2 ⟨u, List.mem_range.2 hu14, e.symm⟩)
  · simp only [partL, List.mem_cons, List.mem_nil_iff, or_false] at hx
    simp only [roomL, List.mem_append]
    rcases hx with rfl | rfl | rfl | rfl
    · exact .inr (.inl (cof_mem (bitF_below s 4 0 0) hc hG))
    · exact .inr (.inr (.inl (cof_mem (bitF_below p 3 8 0) hc hG)))
    · exact .inr (.inr (.inr (.inl (cof_mem (bitF_below d 4 4 0) hc hG))))
    · exact .inr (.inr (.inr (.inr (.inl (cof_mem (bitF_below q 3 11 0) hc hG)))))
  · simp only [roomL, List.mem_append]
    have hk4 : k < 4 := hk
    match k, hk4 with
    | 0, _ => exact .inr (.inr (.inr (.inr (.inr (.inl (cof_mem o1 hc hG))))))
    | 1, _ => exact .inr (.inr (.inr (.inr (.inr (.inr (.inl (cof_mem o2 hc hG)))))))
    | 2, _ => exact .inr (.inr (.inr (.inr (.inr (.inr (.inr (.inl (cof_mem o3 hc hG))))))))
    | 3, _ => exact .inr (.inr (.inr (.inr (.inr (.inr (.inr (.inr (cof_mem o4 hc hG))))))))

theorem build_room {A : St} {s d p q most : Nat} (he : Ext (newSt 14 most) A) (hm : 2 ≤ most) (hn : ∀ j, 2 ≤ j → j < A.len → NewB (partL s d p q) (den A.ns j)) : A.len ≤ 39208 := by
  have hi := newSt_inv 14 most (by omega) hm
  have hv : A.vars = 14 := he.vars
  have ok : Ok 14 A.ns := hv ▸ he.inv.ok
  obtain ⟨more, e⟩ := he.ns
  have ok' : Ok 14 ((newSt 14 most).ns ++ more) := e ▸ ok
  have := count_new hi.ok ok' (roomL s d p q) (fun j h1 h2 => by
    rw [← e] at h2 ⊢
    exact roomL_mem (hn j h1 h2) (nonconst ok h2 h1) (den_below ok j h2))
  rw [roomL_length] at this
  show A.ns.length ≤ _
  rw [e, List.length_append]
  have : (newSt 14 most).ns.length = 2 := rfl
  omega
end Go.Proofs.Ytidikopjfpioaaa
