/- A part of the proof: Df3, DifferW. -/
import Derived.Test.YtklbdfgblebniaaDs26

set_option linter.unusedVariables false
set_option linter.unusedSimpArgs false
namespace Go.Proofs.Ytklbdfgblebniaa
open Go.RowKit Go.Maps Bdd

section
variable {P : Program} {ops : Array Oper} {Q : Exit → Act → World → Prop} {md : Region.Mode} {S : World → Prop} {s : Nat}
theorem wpAnyE_two {i j : Nat} {o o' : Oper} {fuel : Nat} {listed : Array Bool} {a : Act} {w : World} (ho0 : ops.toList[i]? = some o) (ho1 : ops.toList[j]? = some o') (hr : Region.ready md ops listed = [i, j]) (inv : Shut (ClosedL md ops listed))
    (h : ∀ K' : Act → World → Prop, Shut (∀ a w, ((listed.setIfInBounds i true).getD s true = false → S w) → (Shut (ClosedL md ops (listed.setIfInBounds i true)) → wpAnyE P md ops Q S s fuel (listed.setIfInBounds i true) a w) → K' a w) → if Region.wanted o (yielded ops a.tmps) = true then Oper.wp P o a w K' Q else K' (a.put o.dst undef) w)
    (h' : ∀ K' : Act → World → Prop, Shut (∀ a w, ((listed.setIfInBounds j true).getD s true = false → S w) → (Shut (ClosedL md ops (listed.setIfInBounds j true)) → wpAnyE P md ops Q S s fuel (listed.setIfInBounds j true) a w) → K' a w) → if Region.wanted o' (yielded ops a.tmps) = true then Oper.wp P o' a w K' Q else K' (a.put o'.dst undef) w) :
    wpAnyE P md ops Q S s (fuel + 1) listed a w := by
  have ho : ops[i]? = some o := by simpa using ho0
  have ho' : ops[j]? = some o' := by simpa using ho1
  have hi : i ∈ Region.ready md ops listed := by rw [hr]; simp
  have hj : j ∈ Region.ready md ops listed := by rw [hr]; simp
  refine ⟨fun h0 => (by rw [h0] at hr; cases hr), fun k hk => ?_⟩
  rw [hr] at hk
  simp only [List.mem_cons, List.not_mem_nil, or_false] at hk
  rcases hk with rfl | rfl
  · exact wpOp_step ho (fun K hK => h K (fun a w hS hW => hK a w ⟨hS, hW (inv.out.set hi)⟩))
  · exact wpOp_step ho' (fun K hK => h' K (fun a w hS hW => hK a w ⟨hS, hW (inv.out.set hj)⟩))
end

def SideAny (n : NetV) (nm : ByteArray) (F : Nat → Bool) : Prop := ∃ v K, SideIs n.devs n.ls nm v K ∧ F = sideF n.devs n.ls nm v K
theorem SideAny.unique {n : NetV} {nm : ByteArray} {F F' : Nat → Bool} (h : SideAny n nm F) (h' : SideAny n nm F') : F = F' := by
  obtain ⟨v, K, h1, rfl⟩ := h
  obtain ⟨v', K', h2, rfl⟩ := h'
  exact h1.unique h2
def AtP (a b : NetV) (nm : ByteArray) (W : World) (e : Ending) (W' : World) : Prop := Below W.heap.size W W' ∧
  ((∃ E : Int, E ≠ 0 ∧ e = .returned (drErr E)) ∨ ∃ F G, SideAny a nm F ∧ SideAny b nm G ∧ e = .returned (drV (leastF F G 16384)))
theorem hostI_ok (nm : ByteArray) (ds : List Dev) (h : ds.length ≤ 10) : i64ok (hostI nm ds) := by
  rcases hostI_lt nm ds with e | ⟨k, e, hk⟩
  · rw [e]; exact ⟨by omega, by omega⟩
  · rw [e]; exact ⟨by omega, by omega⟩
theorem pickD_len (v : Nat → Bool) (ds : List Dev) (k : Nat) : (pickD v ds k).length ≤ k := by
  unfold pickD
  refine Nat.le_trans (List.length_filterMap_le ..) ?_
  unfold oldL
  exact Nat.le_trans (List.length_filter_le ..) (by simp)

theorem i64ok0 : i64ok 0 := ⟨by omega, by omega⟩
theorem side_len {ds : List Dev} {ls : List LinkV} {nm : ByteArray} {v : Nat → Bool} {K : Nat} (h : SideIs ds ls nm v K) : (pickD v ds ds.length).length ≤ 10 :=
  Nat.le_trans (pickD_len _ _ _) (by have := (netE_ok (chkE_host h.chk).1).dl; omega)
set_option maxRecDepth 100000 in
set_option maxHeartbeats 8000000 in
theorem differAt_walk (a b : NetV) (nm : ByteArray) (W : World) (ha : NetAt W W.heap.size a) (hb : NetAt W W.heap.size b) :
    Calls Try.prog 14 #[a.val, b.val, .string nm, .int .i64 40000] W (AtP a b nm W) := by
  have HSD := hide (fun (w' : World) (hb' : Below W.heap.size W w') (Nn cn : Nat) (hN : Nn < w'.heap.size) hc => sides_walk a b nm Nn cn w' (ha.below hb' hb'.size) (hb.below hb' hb'.size) hN hc)
  have HBAD := hide (fun (E : Int) (h0 : E ≠ 0) (w' : World) (hb' : Below W.heap.size W w') => show AtP a b nm W (.returned (drErr E)) w' from ⟨hb', .inl ⟨E, h0, rfl⟩⟩)
  have HGOOD := hide (fun (va vb : Nat → Bool) (Ka Kb : Nat) (h1 : SideIs a.devs a.ls nm va Ka) (h2 : SideIs b.devs b.ls nm vb Kb) (w' : World) (hb' : Below W.heap.size W w') => show AtP a b nm W (.returned (drV (leastF (sideF a.devs a.ls nm va Ka) (sideF b.devs b.ls nm vb Kb) 16384))) w' from
    ⟨hb', .inr ⟨_, _, ⟨va, Ka, h1, rfl⟩, ⟨vb, Kb, h2, rfl⟩, rfl⟩⟩)
  clear ha hb
  generalize AtP a b nm W = Q at *
  obtain ⟨dA, dn, dc, ds, lA, ln, lc, ls⟩ := a
  obtain ⟨eA, en, ec, es, fA, fn, fc, fs⟩ := b
  simp only [NetV.val, NetV.devs] at *
  go_enter Try.func14, Try.ntmps14
  go_wp2_with fail
  have hb1 := ((below_alloc3 W (.cells #[.slice dA dn dc, .slice lA ln lc] 25) (.cells #[.slice eA en ec, .slice fA fn fc] 25)).trans ((below_alloc3 _ (.cells #[.int .i64 0, .int .i64 0, .int .i64 0, .int .i64 0] 27) (.cells #[.slice dA dn dc, .slice lA ln lc, .slice eA en ec, .slice fA fn fc] 25)).mono (below_alloc3 W _ _).size))
  have HB1 := hide hb1
  have hbx := boxesB [(#[.slice dA dn dc, .slice lA ln lc], 25), (#[.slice eA en ec, .slice fA fn fc], 25), (#[.int .i64 0, .int .i64 0, .int .i64 0, .int .i64 0], 27), (#[.slice dA dn dc, .slice lA ln lc, .slice eA en ec, .slice fA fn fc], 25)] W
  have HR1 := hide (show Bx ((((W.alloc (.cells #[.slice dA dn dc, .slice lA ln lc] 25)).alloc (.cells #[.slice eA en ec, .slice fA fn fc] 25)).alloc (.cells #[.int .i64 0, .int .i64 0, .int .i64 0, .int .i64 0] 27)).alloc (.cells #[.slice dA dn dc, .slice lA ln lc, .slice eA en ec, .slice fA fn fc] 25)) (W.heap.size + 2) #[.int .i64 0, .int .i64 0, .int .i64 0, .int .i64 0] 27 from hbx 2 _ _ rfl)
  have HN1 := hide (show Bx ((((W.alloc (.cells #[.slice dA dn dc, .slice lA ln lc] 25)).alloc (.cells #[.slice eA en ec, .slice fA fn fc] 25)).alloc (.cells #[.int .i64 0, .int .i64 0, .int .i64 0, .int .i64 0] 27)).alloc (.cells #[.slice dA dn dc, .slice lA ln lc, .slice eA en ec, .slice fA fn fc] 25)) (W.heap.size + 3) #[.slice dA dn dc, .slice lA ln lc, .slice eA en ec, .slice fA fn fc] 25 from hbx 3 _ _ rfl)
  clear hb1 hbx
  have e2 : W.heap.size + 1 + 1 = W.heap.size + 2 := rfl
  have e3 : W.heap.size + 1 + 1 + 1 = W.heap.size + 3 := rfl
  rw [e3, e2]
  clear e2 e3
  generalize World.alloc (World.alloc (World.alloc (World.alloc W _) _) _) _ = w1 at *
  refine (HSD.out w1 HB1.out (W.heap.size + 3) 2 HN1.out.lt (fun j u hu => HN1.out.get j u (by simpa [netC] using hu))).mono ?_
  clear HSD HN1
  rintro e w2 ⟨hb2, hra⟩
  have HB2 := hide (HB1.out.trans (hb2.mono HB1.out.size))
  have HR2 := hide (HR1.out.below hb2)
  clear hb2 HB1 HR1
  simp only [NetV.devs] at hra
  rcases hra with ⟨E, hE, rfl⟩ | ⟨s, c, Na, Nb, Ka, Kb, va, vb, rfl, hsa, hsb, hra, hrb, hcell⟩
  · have HF := hide (fun w' hb => HBAD.out E hE w' hb)
    have hC2 : (E != 0) = true := by simpa using hE
    have z0 := HR2.out.get 0 _ rfl
    have z1 := HR2.out.get 1 _ rfl
    have z2 := HR2.out.get 2 _ rfl
    have z3 := HR2.out.get 3 _ rfl
    have f0 := HR2.out.frozen 0
    have f1 := HR2.out.frozen 1
    have f2 := HR2.out.frozen 2
    have f3 := HR2.out.frozen 3
    clear hE
    go_wp2
    have HZf := (((HR2.out.set 0 (.int .i64 0)).set 1 (.int .i64 0)).set 2 (.int .i64 0)).set 3 (.int .i64 0)
    have y0 := HZf.get 0 (.int .i64 0) rfl
    have y1 := HZf.get 1 (.int .i64 0) rfl
    have y2 := HZf.get 2 (.int .i64 0) rfl
    have y3 := HZf.get 3 (.int .i64 0) rfl
    refine bodyPost_ret (v := drErr E) (by simp only [results, Try.f14]; simp [go_sem, drErr, y0, y1, y2, y3]) rfl ?_
    exact HF.out _ ((((HB2.out.setCell (by show _ ≤ W.heap.size + 2; omega) _).setCell (by show _ ≤ W.heap.size + 2; omega) _).setCell (by show _ ≤ W.heap.size + 2; omega) _).setCell (by show _ ≤ W.heap.size + 2; omega) _)
  have HG := hide (fun w' hb => HGOOD.out va vb Ka Kb hsa hsb w' hb)
  have HLW := hide (fun (w' : World) (hb : Below w2.heap.size w2 w') => least_walk2 Na Nb _ _ _ _ Ka Kb (hostI nm (pickD va (ds.map DevV.dev) (ds.map DevV.dev).length), 0) (hostI nm (pickD vb (es.map DevV.dev) (es.map DevV.dev).length), 0) ⟨hostI_ok _ _ (side_len hsa), i64ok0⟩ ⟨hostI_ok _ _ (side_len hsb), i64ok0⟩ w' (hra.below hb) (hrb.below hb))
  change Hid (∀ (w' : World) (hb : Below w2.heap.size w2 w'), Calls _ _ _ w' fun e W' => e = .returned (leastV (leastF (sideF (ds.map DevV.dev) ls nm va Ka) (sideF (es.map DevV.dev) fs nm vb Kb) 16384)) ∧ _) at HLW
  generalize leastF (sideF (ds.map DevV.dev) ls nm va Ka) (sideF (es.map DevV.dev) fs nm vb Kb) 16384 = R at *
  simp only [sideV] at HLW
  generalize hostI nm (pickD va (ds.map DevV.dev) (ds.map DevV.dev).length) = I1 at *
  generalize hostI nm (pickD vb (es.map DevV.dev) (es.map DevV.dev).length) = I2 at *
  obtain ⟨x0, x1, x2, x3, kk, hlv, hdv⟩ : ∃ x0 x1 x2 x3 kk : Int, leastV R = .tuple #[.agg #[.int .i64 x0, .int .i64 x1, .int .i64 x2, .int .i64 x3], .int .i64 kk] ∧ drV R = .tuple #[.agg #[.int .i64 x0, .int .i64 x1, .int .i64 x2, .int .i64 x3], .int .i64 kk, .int .i64 0] := by
    rcases R with _ | ⟨c, k⟩
    · exact ⟨0, 0, 0, 0, 0, rfl, rfl⟩
    · obtain ⟨x0, x1, x2, x3, h⟩ := packVal_ints c
      exact ⟨x0, x1, x2, x3, k, by simp only [leastV, h], by simp only [drV, h]⟩
  rw [hlv] at HLW
  have HDV := hide hdv
  have HQ := hide (fun (w' : World) (hb : Below w2.heap.size w2 w') => show w'.cell? ⟨s, 0, none⟩ = some (.pointer (some ⟨Na, 0, none⟩)) ∧ w'.cell? ⟨s, 1, none⟩ = some (.int .i64 I1) ∧ w'.cell? ⟨s, 2, none⟩ = some (.int .i64 0) ∧ w'.cell? ⟨s, 3, none⟩ = some (.pointer (some ⟨Nb, 0, none⟩)) ∧ w'.cell? ⟨s, 4, none⟩ = some (.int .i64 I2) ∧ w'.cell? ⟨s, 5, none⟩ = some (.int .i64 0) from by
    have hl : s < w2.heap.size := World.block_lt_of_cell? w2 ⟨s, 0, none⟩ (hcell 0 _ rfl)
    exact ⟨(hb.cell (p := ⟨s, 0, none⟩) hl).trans (hcell 0 _ rfl), (hb.cell (p := ⟨s, 1, none⟩) hl).trans (hcell 1 _ rfl), (hb.cell (p := ⟨s, 2, none⟩) hl).trans (hcell 2 _ rfl), (hb.cell (p := ⟨s, 3, none⟩) hl).trans (hcell 3 _ rfl), (hb.cell (p := ⟨s, 4, none⟩) hl).trans (hcell 4 _ rfl), (hb.cell (p := ⟨s, 5, none⟩) hl).trans (hcell 5 _ rfl)⟩)
  clear hlv hdv hcell hra hrb hsa hsb HGOOD HBAD
  go_wp2_with fail
  have HD := hide (Below.drew (Below.refl w2.heap.size w2))
  refine wp_region_E (fun w' => w'.cell? ⟨s, 0, none⟩ = some (.pointer (some ⟨Na, 0, none⟩)) ∧ w'.cell? ⟨s, 1, none⟩ = some (.int .i64 I1) ∧ w'.cell? ⟨s, 2, none⟩ = some (.int .i64 0) ∧ w'.cell? ⟨s, 3, none⟩ = some (.pointer (some ⟨Nb, 0, none⟩)) ∧ w'.cell? ⟨s, 4, none⟩ = some (.int .i64 I2) ∧ w'.cell? ⟨s, 5, none⟩ = some (.int .i64 0)) 8 (by kernel_rfl) (HQ.out _ HD.out) (fun hS inv => ?_)
  refine wpAnyE_pure (i := 0) (v := ?_) rfl (by kernel_rfl) (by kernel_rfl) (by kernel_rfl) (by kernel_rfl) (fun _ _ _ h => h) inv (Or.inl ⟨by rfl, ?_⟩) (fun _ => hS) (fun inv2 => ?_)
  rotate_left
  · intro w _
    go_simp
    try with_reducible rfl
  clear inv
  have inv := inv2
  clear inv2
  try simp only [Act.put, nrmA, nrmB, nrmC]
  refine wpAnyE_pure (i := 1) (v := ?_) rfl (by kernel_rfl) (by kernel_rfl) (by kernel_rfl) (by kernel_rfl) (fun _ _ _ h => h) inv (Or.inl ⟨by rfl, ?_⟩) (fun _ => hS) (fun inv2 => ?_)
  rotate_left
  · intro w _
    go_simp
    try with_reducible rfl
  clear inv
  have inv := inv2
  clear inv2
  try simp only [Act.put, nrmA, nrmB, nrmC]
  refine wpAnyE_load (i := 2) (v := ?_) [3, 8] rfl (by kernel_rfl) (by kernel_rfl) (by kernel_rfl) (by kernel_rfl) (fun _ _ _ h => h) inv (Or.inl ⟨by rfl, ?_⟩) hS (fun inv2 => ?_)
  rotate_left
  · intro w hSw
    obtain ⟨s0, s1, s2, s3, s4, s5⟩ := hSw
    go_simp
    try with_reducible rfl
  clear inv
  have inv := inv2
  clear inv2
  try simp only [Act.put, nrmA, nrmB, nrmC]
  refine wpAnyE_pure (i := 3) (v := ?_) rfl (by kernel_rfl) (by kernel_rfl) (by kernel_rfl) (by kernel_rfl) (fun _ _ _ h => h) inv (Or.inl ⟨by rfl, ?_⟩) (fun _ => hS) (fun inv2 => ?_)
  rotate_left
  · intro w _
    go_simp
    try with_reducible rfl
  clear inv
  have inv := inv2
  clear inv2
  try simp only [Act.put, nrmA, nrmB, nrmC]
  refine wpAnyE_pure (i := 4) (v := ?_) rfl (by kernel_rfl) (by kernel_rfl) (by kernel_rfl) (by kernel_rfl) (fun _ _ _ h => h) inv (Or.inl ⟨by rfl, ?_⟩) (fun _ => hS) (fun inv2 => ?_)
  rotate_left
  · intro w _
    go_simp
    try with_reducible rfl
  clear inv
  have inv := inv2
  clear inv2
  try simp only [Act.put, nrmA, nrmB, nrmC]
  refine wpAnyE_pure (i := 5) (v := ?_) rfl (by kernel_rfl) (by kernel_rfl) (by kernel_rfl) (by kernel_rfl) (fun _ _ _ h => h) inv (Or.inl ⟨by rfl, ?_⟩) (fun _ => hS) (fun inv2 => ?_)
  rotate_left
  · intro w _
    go_simp
    try with_reducible rfl
  clear inv
  have inv := inv2
  clear inv2
  try simp only [Act.put, nrmA, nrmB, nrmC]
  refine wpAnyE_load (i := 6) (v := ?_) [7, 8] rfl (by kernel_rfl) (by kernel_rfl) (by kernel_rfl) (by kernel_rfl) (fun _ _ _ h => h) inv (Or.inl ⟨by rfl, ?_⟩) hS (fun inv2 => ?_)
  rotate_left
  · intro w hSw
    obtain ⟨s0, s1, s2, s3, s4, s5⟩ := hSw
    go_simp
    try with_reducible rfl
  clear inv
  have inv := inv2
  clear inv2
  try simp only [Act.put, nrmA, nrmB, nrmC]
  refine wpAnyE_pure (i := 7) (v := ?_) rfl (by kernel_rfl) (by kernel_rfl) (by kernel_rfl) (by kernel_rfl) (fun _ _ _ h => h) inv (Or.inl ⟨by rfl, ?_⟩) (fun _ => hS) (fun inv2 => ?_)
  rotate_left
  · intro w _
    go_simp
    try with_reducible rfl
  clear inv
  have inv := inv2
  clear inv2
  try simp only [Act.put, nrmA, nrmB, nrmC]
  clear hS
  have HS3 : Hid (w2.drew.heap.size = w2.heap.size) := hide rfl
  generalize hw3 : World.drew w2 = w3 at *
  have hcl := HR2.out.lt
  refine wpAnyE_two (i := 8) (j := 12) rfl rfl (by kernel_rfl) inv (fun K hK => ?_) (fun K hK => ?_)
  · go_simp
    refine (HLW.out _ HD.out).mono ?_
    rintro e w4 ⟨rfl, hb4⟩
    have HB4 := hide ((HB2.out.trans (HD.out.mono HB2.out.size)).trans (hb4.mono (by rw [HS3.out]; exact HB2.out.size)))
    have HR4 := hide ((HR2.out.below HD.out).below hb4)
    have hcl4 := HR4.out.lt
    have hS := HQ.out _ (HD.out.trans (hb4.mono (by rw [HS3.out]; exact Nat.le_refl _)))
    clear HB2 HR2 HD HLW HQ hb4 HS3 hcl
    go_simp
    refine hK.out _ _ (fun h => by cases h) (fun inv2 => ?_)
    clear hK K
    clear inv
    have inv := inv2
    clear inv2
    try simp only [Act.put, nrmA, nrmB, nrmC]
    refine wpAnyE_pure (i := 9) (v := ?_) rfl (by kernel_rfl) (by kernel_rfl) (by kernel_rfl) (by kernel_rfl) (fun _ _ _ h => h) inv (Or.inl ⟨by rfl, ?_⟩) (fun _ => hS) (fun inv2 => ?_)
    rotate_left
    · intro w _
      go_simp
      try with_reducible rfl
    clear inv
    have inv := inv2
    clear inv2
    try simp only [Act.put, nrmA, nrmB, nrmC]
    refine wpAnyE_pure (i := 10) (v := ?_) rfl (by kernel_rfl) (by kernel_rfl) (by kernel_rfl) (by kernel_rfl) (fun _ _ _ h => h) inv (Or.inl ⟨by rfl, ?_⟩) (fun _ => hS) (fun inv2 => ?_)
    rotate_left
    · intro w _
      go_simp
      try with_reducible rfl
    clear inv
    have inv := inv2
    clear inv2
    try simp only [Act.put, nrmA, nrmB, nrmC]
    refine wpAnyE_pure (i := 11) (v := ?_) rfl (by kernel_rfl) (by kernel_rfl) (by kernel_rfl) (by kernel_rfl) (fun _ _ _ h => h) inv (Or.inl ⟨by rfl, ?_⟩) (fun _ => hS) (fun inv2 => ?_)
    rotate_left
    · intro w _
      go_simp
      try with_reducible rfl
    clear inv
    have inv := inv2
    clear inv2
    try simp only [Act.put, nrmA, nrmB, nrmC]
    refine wpAnyE_late (i := 12) rfl (by kernel_rfl) inv (by kernel_rfl) (fun K hK => ?_)
    go_simp
    refine hK.out _ _ (fun inv2 => ?_)
    clear hK K
    clear inv
    have inv := inv2
    clear inv2
    try simp only [Act.put, nrmA, nrmB, nrmC]
    have HB5a := hide (HB4.out.alloc HB4.out.size (.cells #[.int .i64 0, .int .i64 0, .int .i64 0, .int .i64 0] 27))
    have HR5a := hide (HR4.out.below (below_alloc2 w4 (.cells #[.int .i64 0, .int .i64 0, .int .i64 0, .int .i64 0] 27)))
    have HX5a := hide (Bx.new w4 #[.int .i64 0, .int .i64 0, .int .i64 0, .int .i64 0] 27)
    have hne : W.heap.size + 2 ≠ w4.heap.size := by omega
    have hle : W.heap.size ≤ w4.heap.size := by omega
    clear hS HB4 HR4 hcl4
    generalize World.alloc w4 _ = w5 at *
    generalize w4.heap.size = N at *
    have k0 := HX5a.out.get 0 _ rfl
    have k1 := HX5a.out.get 1 _ rfl
    have k2 := HX5a.out.get 2 _ rfl
    have k3 := HX5a.out.get 3 _ rfl
    have g0 := HX5a.out.frozen 0
    have g1 := HX5a.out.frozen 1
    have g2 := HX5a.out.frozen 2
    have g3 := HX5a.out.frozen 3
    refine wpAnyE_late (i := 13) rfl (by kernel_rfl) inv (by kernel_rfl) (fun K hK => ?_)
    go_simp
    refine hK.out _ _ (fun inv2 => ?_)
    clear hK K
    clear inv
    have inv := inv2
    clear inv2
    try simp only [Act.put, nrmA, nrmB, nrmC]
    refine wpAnyE_late (i := 14) rfl (by kernel_rfl) inv (by kernel_rfl) (fun K hK => ?_)
    go_simp
    refine hK.out _ _ (fun inv2 => ?_)
    clear hK K
    clear inv
    have inv := inv2
    clear inv2
    try simp only [Act.put, nrmA, nrmB, nrmC]
    refine wpAnyE_done (by kernel_rfl) ?_ _
    clear inv
    have HX5 := hide ((((HX5a.out.set 0 (.int .i64 x0)).set 1 (.int .i64 x1)).set 2 (.int .i64 x2)).set 3 (.int .i64 x3))
    have HR5 := hide ((((HR5a.out.far ⟨N, 0, none⟩ (.int .i64 x0) hne).far ⟨N, 1, none⟩ (.int .i64 x1) hne).far ⟨N, 2, none⟩ (.int .i64 x2) hne).far ⟨N, 3, none⟩ (.int .i64 x3) hne)
    have HB5 := hide (show Below W.heap.size W ((((w5.setCell ⟨N, 0, none⟩ (.int .i64 x0)).setCell ⟨N, 1, none⟩ (.int .i64 x1)).setCell ⟨N, 2, none⟩ (.int .i64 x2)).setCell ⟨N, 3, none⟩ (.int .i64 x3)) from (((HB5a.out.setCell hle _).setCell hle _).setCell hle _).setCell hle _)
    clear k0 k1 k2 k3 g0 g1 g2 g3
    have z0 := HR5.out.get 0 _ rfl
    have z1 := HR5.out.get 1 _ rfl
    have z2 := HR5.out.get 2 _ rfl
    have z3 := HR5.out.get 3 _ rfl
    have f0 := HR5.out.frozen 0
    have f1 := HR5.out.frozen 1
    have f2 := HR5.out.frozen 2
    have f3 := HR5.out.frozen 3
    have k0 := HX5.out.get 0 _ rfl
    have k1 := HX5.out.get 1 _ rfl
    have k2 := HX5.out.get 2 _ rfl
    have k3 := HX5.out.get 3 _ rfl
    go_wp2
    have HZf := (((HR5.out.set 0 (.int .i64 x0)).set 1 (.int .i64 x1)).set 2 (.int .i64 x2)).set 3 (.int .i64 x3)
    have y0 := HZf.get 0 (.int .i64 x0) rfl
    have y1 := HZf.get 1 (.int .i64 x1) rfl
    have y2 := HZf.get 2 (.int .i64 x2) rfl
    have y3 := HZf.get 3 (.int .i64 x3) rfl
    refine bodyPost_ret (v := .tuple #[.agg #[.int .i64 x0, .int .i64 x1, .int .i64 x2, .int .i64 x3], .int .i64 kk, .int .i64 0]) (by simp only [results, Try.f14]; simp [go_sem, y0, y1, y2, y3]) rfl ?_
    rw [← HDV.out]
    exact HG.out _ ((((HB5.out.setCell (by show _ ≤ W.heap.size + 2; omega) _).setCell (by show _ ≤ W.heap.size + 2; omega) _).setCell (by show _ ≤ W.heap.size + 2; omega) _).setCell (by show _ ≤ W.heap.size + 2; omega) _)
  · go_simp
    have HBn := hide ((HB2.out.trans (HD.out.mono HB2.out.size)).alloc (by rw [HS3.out]; exact HB2.out.size) (.cells #[.int .i64 0, .int .i64 0, .int .i64 0, .int .i64 0] 27))
    have HRn := hide ((HR2.out.below HD.out).below (below_alloc2 w3 (.cells #[.int .i64 0, .int .i64 0, .int .i64 0, .int .i64 0] 27)))
    have HXn := hide (Bx.new w3 #[.int .i64 0, .int .i64 0, .int .i64 0, .int .i64 0] 27)
    have hb34 := HD.out.trans ((below_alloc2 w3 (.cells #[.int .i64 0, .int .i64 0, .int .i64 0, .int .i64 0] 27)).mono (by rw [HS3.out]; exact Nat.le_refl _))
    have hS := HQ.out _ hb34
    refine hK.out _ _ (fun _ => hS) (fun inv2 => ?_)
    clear hK K
    clear inv
    have inv := inv2
    clear inv2
    try simp only [Act.put, nrmA, nrmB, nrmC]
    refine wpAnyE_one (i := 8) rfl (by kernel_rfl) inv (fun K hK => ?_)
    go_simp
    refine (HLW.out _ hb34).mono ?_
    rintro e w5 ⟨rfl, hb4⟩
    have HB5a := hide (HBn.out.trans (hb4.mono HBn.out.size))
    have HR5a := hide (HRn.out.below hb4)
    have HX5a := hide (HXn.out.below hb4)
    have hne : W.heap.size + 2 ≠ w3.heap.size := by rw [HS3.out]; omega
    have hle : W.heap.size ≤ w3.heap.size := by rw [HS3.out]; omega
    have hS := HQ.out _ (hb34.trans (hb4.mono hb34.size))
    clear HB2 HR2 HD HLW HQ hb4 HS3 hcl hb34 HBn HRn HXn
    go_simp
    refine hK.out _ _ (fun h => by cases h) (fun inv2 => ?_)
    clear hK K
    clear inv
    have inv := inv2
    clear inv2
    try simp only [Act.put, nrmA, nrmB, nrmC]
    refine wpAnyE_pure (i := 9) (v := ?_) rfl (by kernel_rfl) (by kernel_rfl) (by kernel_rfl) (by kernel_rfl) (fun _ _ _ h => h) inv (Or.inl ⟨by rfl, ?_⟩) (fun _ => hS) (fun inv2 => ?_)
    rotate_left
    · intro w _
      go_simp
      try with_reducible rfl
    clear inv
    have inv := inv2
    clear inv2
    try simp only [Act.put, nrmA, nrmB, nrmC]
    refine wpAnyE_pure (i := 10) (v := ?_) rfl (by kernel_rfl) (by kernel_rfl) (by kernel_rfl) (by kernel_rfl) (fun _ _ _ h => h) inv (Or.inl ⟨by rfl, ?_⟩) (fun _ => hS) (fun inv2 => ?_)
    rotate_left
    · intro w _
      go_simp
      try with_reducible rfl
    clear inv
    have inv := inv2
    clear inv2
    try simp only [Act.put, nrmA, nrmB, nrmC]
    refine wpAnyE_pure (i := 11) (v := ?_) rfl (by kernel_rfl) (by kernel_rfl) (by kernel_rfl) (by kernel_rfl) (fun _ _ _ h => h) inv (Or.inl ⟨by rfl, ?_⟩) (fun _ => hS) (fun inv2 => ?_)
    rotate_left
    · intro w _
      go_simp
      try with_reducible rfl
    clear inv
    have inv := inv2
    clear inv2
    try simp only [Act.put, nrmA, nrmB, nrmC]
    clear hS
    generalize w3.heap.size = N at *
    have k0 := HX5a.out.get 0 _ rfl
    have k1 := HX5a.out.get 1 _ rfl
    have k2 := HX5a.out.get 2 _ rfl
    have k3 := HX5a.out.get 3 _ rfl
    have g0 := HX5a.out.frozen 0
    have g1 := HX5a.out.frozen 1
    have g2 := HX5a.out.frozen 2
    have g3 := HX5a.out.frozen 3
    refine wpAnyE_late (i := 13) rfl (by kernel_rfl) inv (by kernel_rfl) (fun K hK => ?_)
    go_simp
    refine hK.out _ _ (fun inv2 => ?_)
    clear hK K
    clear inv
    have inv := inv2
    clear inv2
    try simp only [Act.put, nrmA, nrmB, nrmC]
    refine wpAnyE_late (i := 14) rfl (by kernel_rfl) inv (by kernel_rfl) (fun K hK => ?_)
    go_simp
    refine hK.out _ _ (fun inv2 => ?_)
    clear hK K
    clear inv
    have inv := inv2
    clear inv2
    try simp only [Act.put, nrmA, nrmB, nrmC]
    refine wpAnyE_done (by kernel_rfl) ?_ _
    clear inv
    have HX5 := hide ((((HX5a.out.set 0 (.int .i64 x0)).set 1 (.int .i64 x1)).set 2 (.int .i64 x2)).set 3 (.int .i64 x3))
    have HR5 := hide ((((HR5a.out.far ⟨N, 0, none⟩ (.int .i64 x0) hne).far ⟨N, 1, none⟩ (.int .i64 x1) hne).far ⟨N, 2, none⟩ (.int .i64 x2) hne).far ⟨N, 3, none⟩ (.int .i64 x3) hne)
    have HB5 := hide (show Below W.heap.size W ((((w5.setCell ⟨N, 0, none⟩ (.int .i64 x0)).setCell ⟨N, 1, none⟩ (.int .i64 x1)).setCell ⟨N, 2, none⟩ (.int .i64 x2)).setCell ⟨N, 3, none⟩ (.int .i64 x3)) from (((HB5a.out.setCell hle _).setCell hle _).setCell hle _).setCell hle _)
    clear k0 k1 k2 k3 g0 g1 g2 g3
    have z0 := HR5.out.get 0 _ rfl
    have z1 := HR5.out.get 1 _ rfl
    have z2 := HR5.out.get 2 _ rfl
    have z3 := HR5.out.get 3 _ rfl
    have f0 := HR5.out.frozen 0
    have f1 := HR5.out.frozen 1
    have f2 := HR5.out.frozen 2
    have f3 := HR5.out.frozen 3
    have k0 := HX5.out.get 0 _ rfl
    have k1 := HX5.out.get 1 _ rfl
    have k2 := HX5.out.get 2 _ rfl
    have k3 := HX5.out.get 3 _ rfl
    go_wp2
    have HZf := (((HR5.out.set 0 (.int .i64 x0)).set 1 (.int .i64 x1)).set 2 (.int .i64 x2)).set 3 (.int .i64 x3)
    have y0 := HZf.get 0 (.int .i64 x0) rfl
    have y1 := HZf.get 1 (.int .i64 x1) rfl
    have y2 := HZf.get 2 (.int .i64 x2) rfl
    have y3 := HZf.get 3 (.int .i64 x3) rfl
    refine bodyPost_ret (v := .tuple #[.agg #[.int .i64 x0, .int .i64 x1, .int .i64 x2, .int .i64 x3], .int .i64 kk, .int .i64 0]) (by simp only [results, Try.f14]; simp [go_sem, y0, y1, y2, y3]) rfl ?_
    rw [← HDV.out]
    exact HG.out _ ((((HB5.out.setCell (by show _ ≤ W.heap.size + 2; omega) _).setCell (by show _ ≤ W.heap.size + 2; omega) _).setCell (by show _ ≤ W.heap.size + 2; omega) _).setCell (by show _ ≤ W.heap.size + 2; omega) _)
end Go.Proofs.Ytklbdfgblebniaa

set_option linter.unusedVariables false
set_option linter.unusedSimpArgs false
namespace Go.Proofs.Ytklbdfgblebniaa
open Go.RowKit Go.Maps Bdd

set_option maxRecDepth 100000 in
set_option maxHeartbeats 8000000 in
theorem differRules_walk (W : World) (l1 l2 : List RuleV) (ad1 ad2 : Option Addr) (n1 n2 c1 c2 m : Nat) (h1 : n1 ≤ 8) (h2 : n2 ≤ 8) (hm : 2 ≤ m) (hm2 : m ≤ 40000) (hl1 : RulesAt W W.heap.size ad1 n1 l1) (hl2 : RulesAt W W.heap.size ad2 n2 l2) :
    Calls Try.prog 12 #[.slice ad1 n1 c1, .slice ad2 n2 c2, .int .i64 m] W (DRP l1 l2 W) := by
  have HN : Hid (∀ w1, Calls Try.prog 18 #[.int .i64 14, .int .i64 m] w1 (NewP w1 14 m)) := hide (fun w1 => new_walk w1 14 m (by omega) (by omega) hm hm2)
  have HL1 := hide hl1
  have HL2 := hide hl2
  clear hl1 hl2
  have HB0 := hide (fun o1 => show RowKit.Below W.heap.size W ((W.alloc (.cells #[.int .i64 0, .int .i64 0, .int .i64 0, .int .i64 0] 27)).alloc o1) from ((RowKit.Below.refl _ _).alloc (Nat.le_refl _) _).alloc (by simp) _)
  have HZ0 := hide (fun o1 => show PBox ((W.alloc (.cells #[.int .i64 0, .int .i64 0, .int .i64 0, .int .i64 0] 27)).alloc o1) W.heap.size 0 0 0 0 from (PBox.new W 0 0 0 0 27).below ((RowKit.Below.refl _ _).alloc (Nat.le_refl _) _) (by simp))
  have HS0 : ∀ o1, W.heap.size < ((W.alloc (.cells #[.int .i64 0, .int .i64 0, .int .i64 0, .int .i64 0] 27)).alloc o1).heap.size := fun o1 => by simp; omega
  have h1' : ¬ 8 < n1 := by omega
  have h2' : ¬ 8 < n2 := by omega
  go_enter Try.func12, Try.ntmps12
  go_wp2
  refine wp_loop_rounds 3 ?_
  rw [rounds_succ]
  go_wp2_with (go_at_call 26; refine (aclCheck_walk _ _ _ _).mono ?_; rintro e w' ⟨rfl, rfl⟩; rw [if_neg h1'])
  rw [rounds_succ]
  go_wp2_with (go_at_call 26; refine (aclCheck_walk _ _ _ _).mono ?_; rintro e w' ⟨rfl, rfl⟩; rw [if_neg h2'])
  rw [rounds_succ]
  go_wp2_with fail
  refine (HN.out _).mono ?_
  rintro e wa ⟨g, nb, kb, ib, rfl, ha, hb⟩
  have HA := hide ha
  have HZ := hide ((HZ0.out _).below hb (HS0 _))
  have HB := hide ((HB0.out _).trans (hb.mono (HB0.out _).size))
  have hsz : W.heap.size < wa.heap.size := Nat.lt_of_lt_of_le (HS0 _) hb.size
  have HBB : Hid (W.heap.size < ((W.alloc (.cells #[.int .i64 0, .int .i64 0, .int .i64 0, .int .i64 0] 27)).alloc (.cells #[.slice ad1 n1 c1, .slice ad2 n2 c2] 31)).heap.size) := hide (by simp; omega)
  have HSW := hide hb.size
  clear hb HS0 HZ0 HB0 HN
  generalize (W.alloc _).alloc _ = w0 at *
  have HS1 := hide (BS.refl HA.out rfl (fun _ => True))
  have HLE : Hid (W.heap.size ≤ w0.heap.size) := hide (Nat.le_of_lt HBB.out)
  go_wp2_with fail
  refine (aclBuild_walk HS1.out.ar HS1.out.nf (Nat.le_refl 14) l1 ad1 n1 c1 h1 (HL1.out.below HB.out HLE.out) (fun _ => True) (fun _ _ _ _ => trivial) (fun _ _ _ => trivial)).mono ?_
  rintro e wb hbp
  obtain ⟨nb2, cap2, A2, K2, T2, hst, hx, hres⟩ := HS1.out.step HA.out hbp
  have HS2 := hide hst
  have HB2 := hide (show RowKit.Below W.heap.size W wb from HB.out.trans ((HS2.out.belowB HA.out).mono (Nat.le_of_lt HBB.out)))
  have HZ2 := hide (HZ.out.below (HS2.out.belowB HA.out) HBB.out)
  have HX2 := hide hx
  clear hbp hst hx
  rcases hres with ⟨r1, rfl, hisf⟩ | ⟨rfl, hfull⟩
  case inr =>
    clear hfull
    obtain ⟨z0, z1, z2, z3, z4, z5, z6, z7⟩ := HZ2.out
    have HBE := hide HB2.out
    go_wp2
    refine bodyPost_ret (v := drErr 6) (by simp [results, Try.results12, go_sem, drErr, z0, z1, z2, z3]) rfl ?_
    exact ⟨(((HBE.out.setCell (Nat.le_refl _) _).setCell (Nat.le_refl _) _).setCell (Nat.le_refl _) _).setCell (Nat.le_refl _) _, .inl rfl⟩
  have HI2 := hide hisf
  clear hisf
  go_wp2_with fail
  refine (aclBuild_walk HS2.out.ar HS2.out.nf (by rw [HS2.out.ext.vars]; exact Nat.le_refl 14) l2 ad2 n2 c2 h2 (HL2.out.below HB2.out HLE.out) (fun _ => True) (fun _ _ _ _ => trivial) (fun _ _ _ => trivial)).mono ?_
  rintro e wc hbp
  obtain ⟨nb3, cap3, A3, K3, T3, hst, hx, hres⟩ := HS2.out.step HA.out hbp
  have HS3 := hide hst
  have HB3 := hide (show RowKit.Below W.heap.size W wc from HB.out.trans ((HS3.out.belowB HA.out).mono (Nat.le_of_lt HBB.out)))
  have HZ3 := hide (HZ.out.below (HS3.out.belowB HA.out) HBB.out)
  have HX3 := hide hx
  clear hbp hst hx
  rcases hres with ⟨r2, rfl, hisf⟩ | ⟨rfl, hfull⟩
  case inr =>
    clear hfull
    obtain ⟨z0, z1, z2, z3, z4, z5, z6, z7⟩ := HZ3.out
    have HBE := hide HB3.out
    go_wp2
    refine bodyPost_ret (v := drErr 6) (by simp [results, Try.results12, go_sem, drErr, z0, z1, z2, z3]) rfl ?_
    exact ⟨(((HBE.out.setCell (Nat.le_refl _) _).setCell (Nat.le_refl _) _).setCell (Nat.le_refl _) _).setCell (Nat.le_refl _) _, .inl rfl⟩
  have HI3 := hide hisf
  clear hisf
  have HI2b := hide (HI2.out.ext HS2.out.inv HX3.out)
  clear HB2 HZ2 HX2 HI2 HS2
  go_wp2_with fail
  refine (opNot_bp HS3.out.ar HS3.out.nf HI3.out (P := fun _ => True) (fun _ _ => trivial)).mono ?_
  rintro e wd hbp
  obtain ⟨nb4, cap4, A4, K4, T4, hst, hx, hres⟩ := HS3.out.step HA.out hbp
  have HS4 := hide hst
  have HB4 := hide (show RowKit.Below W.heap.size W wd from HB.out.trans ((HS4.out.belowB HA.out).mono (Nat.le_of_lt HBB.out)))
  have HZ4 := hide (HZ.out.below (HS4.out.belowB HA.out) HBB.out)
  have HX4 := hide hx
  clear hbp hst hx
  rcases hres with ⟨r3, rfl, hisf⟩ | ⟨rfl, hfull⟩
  case inr =>
    clear hfull
    obtain ⟨z0, z1, z2, z3, z4, z5, z6, z7⟩ := HZ4.out
    have HBE := hide HB4.out
    go_wp2
    refine bodyPost_ret (v := drErr 6) (by simp [results, Try.results12, go_sem, drErr, z0, z1, z2, z3]) rfl ?_
    exact ⟨(((HBE.out.setCell (Nat.le_refl _) _).setCell (Nat.le_refl _) _).setCell (Nat.le_refl _) _).setCell (Nat.le_refl _) _, .inl rfl⟩
  have HI4 := hide hisf
  clear hisf
  have HI2c := hide (HI2b.out.ext HS3.out.inv HX4.out)
  have HI3b := hide (HI3.out.ext HS3.out.inv HX4.out)
  clear HB3 HZ3 HX3 HI3 HS3 HI2b
  go_wp2_with fail
  refine (opIte_bp HS4.out.ar HS4.out.nf HI2c.out HI4.out HI3b.out (P := fun _ => True) (fun _ _ => trivial)).mono ?_
  rintro e we hbp
  obtain ⟨nb5, cap5, A5, K5, T5, hst, hx, hres⟩ := HS4.out.step HA.out hbp
  have HS5 := hide hst
  have HB5 := hide (show RowKit.Below W.heap.size W we from HB.out.trans ((HS5.out.belowB HA.out).mono (Nat.le_of_lt HBB.out)))
  have HZ5 := hide (HZ.out.below (HS5.out.belowB HA.out) HBB.out)
  have HX5 := hide hx
  clear hbp hst hx
  rcases hres with ⟨r4, rfl, hisf⟩ | ⟨rfl, hfull⟩
  case inr =>
    clear hfull
    obtain ⟨z0, z1, z2, z3, z4, z5, z6, z7⟩ := HZ5.out
    have HBE := hide HB5.out
    go_wp2
    refine bodyPost_ret (v := drErr 6) (by simp [results, Try.results12, go_sem, drErr, z0, z1, z2, z3]) rfl ?_
    exact ⟨(((HBE.out.setCell (Nat.le_refl _) _).setCell (Nat.le_refl _) _).setCell (Nat.le_refl _) _).setCell (Nat.le_refl _) _, .inl rfl⟩
  have HI5 := hide hisf
  clear hisf
  have HI1 := hide (HI2c.out.ext HS4.out.inv HX5.out)
  have HV := hide (show A5.vars = 14 from HS5.out.ext.vars)
  have HQ := hide (fun (c : Nat) (hc : c < 16384) => show den A5.ns r4 (asgV A5.vars c) = (letsB l1 (pk c) != letsB l2 (pk c)) from by
    rw [HV.out, HI5.out.2]
    exact (xorF_at _ _ _).trans (by rw [show asgV 14 c = asgOf c from rfl, aclF_lets l1 HL1.out.2.1 c hc, aclF_lets l2 HL2.out.2.1 c hc]))
  have HQ1 := hide (fun (c : Nat) (hc : c < 16384) => show den A5.ns r1 (asgV A5.vars c) = letsB l1 (pk c) from by
    rw [HV.out, HI1.out.2, show asgV 14 c = asgOf c from rfl, aclF_lets l1 HL1.out.2.1 c hc])
  clear HB4 HZ4 HX4 HI4 HS4 HI2c HI3b HX5
  go_wp2_with fail
  refine (one_walk HS5.out.ar r4 HI5.out.1).mono ?_
  rintro e wf ⟨hb, hor⟩
  have HS6 := hide (HS5.out.below hb)
  have HB6 := hide (HB5.out.trans (hb.mono HB5.out.size))
  have hwe : W.heap.size < we.heap.size := by have := HS5.out.fm.size; omega
  have HZ6 := hide (HZ5.out.below hb hwe)
  have hwf : W.heap.size < wf.heap.size := Nat.lt_of_lt_of_le hwe hb.size
  clear hb HB5 HZ5
  rcases hor with ⟨hz, rfl⟩ | ⟨c, hnz, rfl, hc, ht, hl⟩
  · have HR := hide (leastF_none (F := fun c => letsB l1 (pk c)) (G := fun c => letsB l2 (pk c)) (n := 16384) (fun j hj => by
      have := HQ.out j hj
      rw [hz, den_zero] at this
      simpa using this.symm))
    clear hz
    obtain ⟨z0, z1, z2, z3, z4, z5, z6, z7⟩ := HZ6.out
    have HBE := hide HB6.out
    go_wp2
    refine bodyPost_ret (v := drErr 0) (by simp [results, Try.results12, go_sem, drErr, z0, z1, z2, z3]) rfl ?_
    exact ⟨(((HBE.out.setCell (Nat.le_refl _) _).setCell (Nat.le_refl _) _).setCell (Nat.le_refl _) _).setCell (Nat.le_refl _) _, .inr (by rw [HR.out]; rfl)⟩
  have hcc : c < 16384 := by rw [HV.out] at hc; exact hc
  have HR := hide (leastF_found (F := fun c => letsB l1 (pk c)) (G := fun c => letsB l2 (pk c)) hcc (by rw [← HQ.out c hcc, ht]) (fun j hj => by
    have := HQ.out j (by omega)
    rw [hl j hj] at this
    simpa using this.symm))
  have HE := hide (HQ1.out c hcc)
  have HCV := hide hc
  obtain ⟨x0, x1, x2, x3, hpv⟩ := packVal_ints c
  have HPV := hide hpv
  have HOF : Hid (Calls Try.prog 31 #[.int .i64 c] wf fun e W' => e = .returned (.tuple #[.agg #[.int .i64 x0, .int .i64 x1, .int .i64 x2, .int .i64 x3], .int .i64 0]) ∧ RowKit.Below wf.heap.size wf W') := hide (hpv ▸ of_walk wf c hcc)
  clear ht hl hc hpv
  go_wp2_with fail
  refine HOF.out.mono ?_
  rintro e wh ⟨rfl, hb⟩
  have hb2 := hb.alloc hb.size (.cells #[.int .i64 x0, .int .i64 x1, .int .i64 x2, .int .i64 x3] 27)
  have HS7 := hide (HS6.out.below hb2)
  have HB7 := hide (HB6.out.trans (hb2.mono HB6.out.size))
  have HZ7 := hide (HZ6.out.below hb2 hwf)
  have HX7 := hide (PBox.new wh x0 x1 x2 x3 27)
  have hwh : W.heap.size < wh.heap.size := Nat.lt_of_lt_of_le hwf hb.size
  have hwi : wh.heap.size < (wh.alloc (.cells #[.int .i64 x0, .int .i64 x1, .int .i64 x2, .int .i64 x3] 27)).heap.size := by simp
  clear hb hb2 HOF HS6 HB6 HZ6
  go_wp2_with fail
  refine (eval_walk HS7.out.ar r1 c HI1.out.1 HCV.out).mono ?_
  generalize wh.alloc _ = wi at *
  rintro e wj ⟨rfl, hb⟩
  rw [show (fun u => c.testBit (A5.vars - 1 - u)) = asgV A5.vars c from rfl, HE.out]
  have HB8 := hide (HB7.out.trans (hb.mono HB7.out.size))
  have HZ8 := hide (HZ7.out.below hb (Nat.lt_trans hwh hwi))
  have HX8 := hide (HX7.out.below hb hwi)
  clear hb HS7 HB7 HZ7 HX7
  obtain ⟨p0, p1, p2, p3, _⟩ := HX8.out
  cases hlet : letsB l1 (pk c)
  · obtain ⟨z0, z1, z2, z3, z4, z5, z6, z7⟩ := HZ8.out
    have HF := hide (show drV (leastF (fun c => letsB l1 (pk c)) (fun c => letsB l2 (pk c)) 16384) = .tuple #[.agg #[.int .i64 x0, .int .i64 x1, .int .i64 x2, .int .i64 x3], .int .i64 2, .int .i64 0] from by rw [HR.out]; simp only [hlet, drV, HPV.out]; rfl)
    go_wp2
    refine bodyPost_ret (v := .tuple #[.agg #[.int .i64 x0, .int .i64 x1, .int .i64 x2, .int .i64 x3], .int .i64 2, .int .i64 0]) (by simp [results, Try.results12, go_sem, z0, z1, z2, z3]) rfl ?_
    exact ⟨(((HB8.out.setCell (Nat.le_refl _) _).setCell (Nat.le_refl _) _).setCell (Nat.le_refl _) _).setCell (Nat.le_refl _) _, .inr (by rw [HF.out])⟩
  · obtain ⟨z0, z1, z2, z3, z4, z5, z6, z7⟩ := HZ8.out
    have HF := hide (show drV (leastF (fun c => letsB l1 (pk c)) (fun c => letsB l2 (pk c)) 16384) = .tuple #[.agg #[.int .i64 x0, .int .i64 x1, .int .i64 x2, .int .i64 x3], .int .i64 1, .int .i64 0] from by rw [HR.out]; simp only [hlet, drV, HPV.out]; rfl)
    go_wp2
    refine bodyPost_ret (v := .tuple #[.agg #[.int .i64 x0, .int .i64 x1, .int .i64 x2, .int .i64 x3], .int .i64 1, .int .i64 0]) (by simp [results, Try.results12, go_sem, z0, z1, z2, z3]) rfl ?_
    exact ⟨(((HB8.out.setCell (Nat.le_refl _) _).setCell (Nat.le_refl _) _).setCell (Nat.le_refl _) _).setCell (Nat.le_refl _) _, .inr (by rw [HF.out])⟩
end Go.Proofs.Ytklbdfgblebniaa
