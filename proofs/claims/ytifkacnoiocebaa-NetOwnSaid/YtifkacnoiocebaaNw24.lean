/- A part of the proof: No1. -/
import Derived.Test.YtifkacnoiocebaaNw23
set_option linter.unusedVariables false
set_option linter.unusedSimpArgs false
set_option maxRecDepth 100000
set_option maxHeartbeats 8000000
namespace Go.Proofs.Ytifkacnoiocebaa
open Go.ChangeAt Go.ChangeShapes Go.RowKit Go.WideShapes
theorem OwnDev.same {w w' : World} {lo : Nat} {d : DevV} {p : Nat → Prop} (h : OwnDev w lo d) (hon : DevOn p d) (hb : ∀ q, p q → w'.heap[q]? = w.heap[q]?) : OwnDev w' lo d := by
  have hm : ∀ {A : Option Addr}, (∀ a, A = some a → p a.block) → ∀ q, A.map (·.block) = some q → w'.heap[q]? = w.heap[q]? := fun {A} ha q hq => by
    cases A with
    | none => cases hq
    | some a => cases hq; exact hb _ (ha a rfl)
  exact ⟨h.b.same (hm hon.b), h.r.same (hm hon.r), h.t.same (hm hon.t)⟩
structure DevM (w : World) (d : DevV) : Prop where
  a : DevAt w w.heap.size d
  o : OwnDev w 0 d
theorem DevM.below {w w' : World} {d : DevV} (h : DevM w d) (hb : RowKit.Below w.heap.size w w') : DevM w' d := ⟨h.a.below hb hb.size, h.o.below hb⟩
theorem dev_own {w4 w5 w6 w7 : World} {N B : Nat} {r : DevV} {B1 B2 B3 : Option Addr} {e1 e2 e3 : Nat} (hz : w4.heap.size = N + 1) (h5 : Below w4.heap.size w4 w5) (h6 : Below w5.heap.size w5 w6) (h7 : Below w6.heap.size w6 w7) (hr : DevAt w4 B r)
    (o1 : w5.ownsRow w4.heap.size 3 1 (.slice B1 r.bn e1) r.bn (r.bs.flatMap i64Cells)) (o2 : w6.ownsRow w5.heap.size 55 5 (.slice B2 r.rn e2) r.rn (r.rs.flatMap RuleV.cells)) (o3 : w7.ownsRow w6.heap.size 71 3 (.slice B3 r.tn e3) r.tn (r.ts.flatMap RouteV.cells))
    (u v t : Value) : OwnDev (set3 w7 N u v t) 0 ⟨r.name, r.kind, r.addr, r.pool, B1, r.bn, e1, r.bs, B2, r.rn, e2, r.rs, B3, r.tn, e3, r.ts⟩ := by
  have s5 := h5.size
  have s6 := h6.size
  have s3 : ∀ q, q ≠ N → (set3 w7 N u v t).heap[q]? = w7.heap[q]? := fun q hq => (RowKit.Below.heap_setCell _ _ _ _ hq).trans ((RowKit.Below.heap_setCell _ _ _ _ hq).trans (RowKit.Below.heap_setCell _ _ _ _ hq))
  refine ⟨⟨r.bs, hr.bs.1, hr.bs.2.1, own_same (o1.mono (Nat.zero_le _)) (fun q hq => ?_)⟩, ⟨r.rs, hr.rs.1, hr.rs.2.1, own_same (o2.mono (Nat.zero_le _)) (fun q hq => ?_)⟩, ⟨r.ts, hr.ts.1, hr.tok, own_same (o3.mono (Nat.zero_le _)) (fun q hq => ?_)⟩⟩
  · have := o1.lt q hq
    exact (s3 q (by omega)).trans ((h7.block q (by omega)).trans (h6.block q (by omega)))
  · have := o2.lt q hq
    exact (s3 q (by omega)).trans (h7.block q (by omega))
  · have := o3.lt q hq
    exact s3 q (by omega)
structure CPo (W : World) (n : NetV) (wr : World) (g : Nat) (V : Value) (A2 : Option Addr) (c2 : Nat) (ds' : List DevV) : Prop where
  bl : Below W.heap.size W wr
  hg : W.heap.size + 1 < g
  sz : g + 1 ≤ wr.heap.size
  rx : BoxS wr (W.heap.size + 1) (.slice none 0 0) (.slice none 0 0)
  gx : BoxS wr g V (.slice A2 n.ln c2)
  own : wr.ownsRow (g + 1) 61 7 V ds'.length (ds'.flatMap DevV.cells)
  lsl : SlAt LinkV.cells 4 wr g A2 n.ln n.ls
  lrw : RowK LinkV.cells LinkV.ok 4 66 wr 0 A2 n.ln c2
  llt : ∀ q, A2.map (·.block) = some q → q < g
  lcap : n.ln ≤ c2 ∧ c2 ≤ maxLen
  dev : ∀ d ∈ ds', DevM wr d
  don : ∀ d ∈ ds', DevOn (fun q => g + 1 ≤ q ∧ q < wr.heap.size ∧ V.ownBlock ≠ some q) d
  same : ds'.map DevV.dev = (n.ds.take ds'.length).map DevV.dev
theorem CPo.below {W : World} {n : NetV} {wr w' : World} {g : Nat} {V : Value} {A2 : Option Addr} {c2 : Nat} {ds' : List DevV} (h : CPo W n wr g V A2 c2 ds') (hb : Below wr.heap.size wr w') : CPo W n w' g V A2 c2 ds' := by
  have hs := h.sz
  have hs2 := hb.size
  have hg := h.hg
  have hw := h.bl.size
  exact ⟨h.bl.trans (hb.mono hw), hg, by omega, h.rx.below hb (by omega), h.gx.below hb (by omega), own_below h.own hb, h.lsl.below (hb.mono (by omega)) (Nat.le_refl _), h.lrw.below hb, h.llt, h.lcap,
    fun d hd => (h.dev d hd).below hb, fun d hd => (h.don d hd).weak (fun q hq => ⟨hq.1, by have := hq.2.1; omega, hq.2.2⟩), h.same⟩
theorem CPo.next {W : World} {n : NetV} {w8 w9 : World} {g : Nat} {V V' : Value} {A2 : Option Addr} {c2 : Nat} {ds' : List DevV} (h : CPo W n w8 g V A2 c2 ds') (d r : DevV) (hd : DevM w8 d)
    (hon : DevOn (fun q => g + 1 ≤ q ∧ q < w8.heap.size ∧ V.ownBlock ≠ some q) d) (hr : n.ds[ds'.length]? = some r) (hrd : r.dev = d.dev)
    (hown : w9.ownsRow (g + 1) 61 7 V' (ds'.length + 1) (ds'.flatMap DevV.cells ++ d.cells)) (hg : w8.grownBy w9 V.ownBlock) (hat : V'.ownBlock = V.ownBlock ∨ V'.ownBlock = some w8.heap.size) :
    CPo W n (w9.setCell ⟨g, 0, none⟩ V') g V' A2 c2 (ds' ++ [d]) := by
  have hs := h.sz
  have hs2 := hg.size
  have hgg := h.hg
  have hlt := h.own.lt
  have hbB : Below (g + 1) w8 w9 := (Below.refl _ _).grown hg (by omega) (fun q hq => (hlt q hq).1)
  have hbg : Below g w8 (w9.setCell ⟨g, 0, none⟩ V') := (hbB.mono (Nat.le_succ g)).setCell (Nat.le_refl g) _
  have hsz : (w9.setCell ⟨g, 0, none⟩ V').heap.size = w9.heap.size := by simp [World.setCell]
  have hgx := h.gx.below hbB (Nat.lt_succ_self _)
  have hst : StayOn (fun k => some k ≠ V.ownBlock ∧ k ≠ g) w8 (w9.setCell ⟨g, 0, none⟩ V') :=
    ((StayOn.of_grown hg).weak (fun k hk => hk.1)).trans ((StayOn.of_set ⟨g, 0, none⟩ V').weak (fun k hk => hk.2))
  have hon' : ∀ x ∈ ds' ++ [d], DevOn (fun q => g + 1 ≤ q ∧ q < w8.heap.size ∧ V.ownBlock ≠ some q) x := fun x hx => by
    rcases List.mem_append.1 hx with hx | hx
    · exact h.don x hx
    · simp at hx; subst hx; exact hon
  refine ⟨h.bl.trans (hbg.mono (by omega)), hgg, by omega, h.rx.below hbg (by omega), ⟨?_, ?_, ?_, ?_⟩, ?_, h.lsl.below hbg (Nat.le_refl _), h.lrw.same (fun q hq => hbg.block q (h.llt q hq)), h.llt, h.lcap, fun x hx => ?_, fun x hx => ?_, ?_⟩
  · exact World.cell?_setCell_same _ _ _ hgx.1
  · rw [World.cell?_setCell_other _ _ _ _ (by simp)]; exact hgx.2.1
  · rw [World.frozen?_setCell]; exact hgx.2.2.1
  · rw [World.frozen?_setCell]; exact hgx.2.2.2
  · have : w9.ownsRow (g + 1) 61 7 V' (ds' ++ [d]).length ((ds' ++ [d]).flatMap DevV.cells) := by simpa using hown
    exact own_set (q := ⟨g, 0, none⟩) this (Nat.lt_succ_self g) _
  · have hdx : DevM w8 x := by
      rcases List.mem_append.1 hx with hx | hx
      · exact h.dev x hx
      · simp at hx; subst hx; exact hd
    refine ⟨?_, hdx.o.same (hon' x hx) (fun q hq => ?_)⟩
    · rw [hsz]
      exact DevAt.stay hdx.a hst ((hon' x hx).weak (fun q hq => ⟨fun e => hq.2.2 e.symm, by have := hq.1; omega⟩)) hs2
    · exact (RowKit.Below.heap_setCell _ _ _ _ (by have := hq.1; show q ≠ g; omega)).trans (hg.block q hq.2.1 (fun e => hq.2.2 e.symm))
  · rw [hsz]
    refine (hon' x hx).weak (fun q hq => ⟨hq.1, by have := hq.2.1; omega, fun e => ?_⟩)
    rcases hat with e1 | e1
    · rw [e1] at e; exact hq.2.2 e
    · rw [e1] at e; have := hq.2.1; simp only [Option.some.injEq] at e; omega
  · rw [List.map_append, h.same, List.length_append, List.length_singleton, List.take_add_one, hr]
    simp [hrd]
theorem copied_walk (n : NetV) (W : World) (hn : NetAt W W.heap.size n) (hd : n.dn * 112 ≤ 140737488355328) (hl : n.ln * 32 ≤ 140737488355328) (hbn : ∀ d ∈ n.ds, d.bn * 8 ≤ 140737488355328 ∧ d.rn * 8 ≤ 140737488355328 ∧ d.tn * 24 ≤ 140737488355328) :
    Calls Try.prog 5 #[n.val] W fun e W' => ∃ n' : NetV, e = .returned n'.val ∧ NetAt W' W'.heap.size n' ∧ n'.devs = n.devs ∧ n'.ls = n.ls ∧ RowKit.Below W.heap.size W W' ∧ NetOn W.heap.size n' ∧ OwnNet W' 0 n' := by
  have HNA := hide (fun (w' : World) (hb : RowKit.Below W.heap.size W w') => show NetAt w' w'.heap.size n from hn.below hb hb.size)
  have HDL := hide (show n.ds.length = n.dn from hn.dlen)
  have HBN := hide hbn
  clear hn hbn
  obtain ⟨dA, dn, dc, ds, lA, ln, lc, ls⟩ := n
  have hd : dn * 112 ≤ 140737488355328 := hd
  have hl : ln * 32 ≤ 140737488355328 := hl
  simp only [NetV.val] at *
  obtain ⟨i0, hi0, hy0, hy1, hy2⟩ := info_parts Try.infoDevice
  go_enter Try.func5, Try.ntmps5
  go_wp2_with fail
  have hb1 : Below W.heap.size W ((W.alloc (.cells #[.slice dA dn dc, .slice lA ln lc] 25)).alloc (.cells #[.slice none 0 0, .slice none 0 0] 25)) := ((Below.refl _ _).alloc (Nat.le_refl _) _).alloc (by simp) _
  have hx1 := BoxS.new (W.alloc (.cells #[.slice dA dn dc, .slice lA ln lc] 25)) (.slice none 0 0) (.slice none 0 0) 25
  have hx0 := (BoxS.new W (.slice dA dn dc) (.slice lA ln lc) 25).below ((Below.refl _ _).alloc (Nat.le_refl _) (.cells #[.slice none 0 0, .slice none 0 0] 25)) (by simp)
  have hs1 : ((W.alloc (.cells #[.slice dA dn dc, .slice lA ln lc] 25)).alloc (.cells #[.slice none 0 0, .slice none 0 0] 25)).heap.size = W.heap.size + 2 := by simp
  rw [show (W.alloc (.cells #[.slice dA dn dc, .slice lA ln lc] 25)).heap.size = W.heap.size + 1 from by simp] at hx1
  generalize World.alloc (World.alloc W _) _ = W1 at *
  refine (bigLink_walk ls lA ln lc W1 (by omega) (HNA.out _ hb1).ls).mono ?_
  rintro e w2 ⟨v, rfl, ho2, hb2⟩
  obtain ⟨A2, c2, rfl, hc2, hs2, hA2⟩ := SlAt.of_own LinkV.len ho2 (HNA.out _ hb1).llen
  have hc3 : c2 ≤ maxLen := own_cap ho2
  have hz2 : W.heap.size + 2 ≤ w2.heap.size := by have := hb2.size; omega
  have HB2 := hide (hb1.trans (hb2.mono (by omega)))
  have HX1 := hide (hx1.below hb2 (by omega))
  have HX0 := hide (hx0.below hb2 (by omega))
  have HS2 := hide hs2
  have HLK := hide (show RowK LinkV.cells LinkV.ok 4 66 w2 0 A2 ln c2 from ⟨ls, (HNA.out _ hb1).llen, (HNA.out _ hb1).lok, ho2.mono (Nat.zero_le _)⟩)
  rw [hs1] at hA2
  clear hb1 hb2 hx1 hx0 hs1 ho2 hs2
  have k0 := HX0.out.1
  have k1 := fun o => (HX0.out.below ((Below.refl _ w2).alloc (Nat.le_refl _) o) (by omega)).1
  go_wp2_with fail
  obtain ⟨g, hgdef⟩ : ∃ g, w2.heap.size = g := ⟨_, rfl⟩
  have hcp : CPo W ⟨dA, dn, dc, ds, lA, ln, lc, ls⟩ (w2.alloc (.cells #[.slice none 0 0, .slice A2 ln c2] 25)) g (.slice none 0 0) A2 c2 [] := by
    have hb := (Below.refl w2.heap.size w2).alloc (Nat.le_refl _) (.cells #[.slice none 0 0, .slice A2 ln c2] 25)
    rw [← hgdef]
    exact ⟨HB2.out.trans (hb.mono HB2.out.size), by omega, by simp, HX1.out.below hb (by omega), BoxS.new w2 _ _ _, World.ownsRow_nil _ _ _ _, HS2.out.below hb (Nat.le_refl _), HLK.out.below hb, fun q hq => (HLK.out.lt q hq).2, ⟨hc2, hc3⟩, fun d hd => by simp at hd, fun d hd => by simp at hd, by simp⟩
  have HC0 := hide hcp
  rw [hgdef]
  have hA2 : ∀ a, A2 = some a → W.heap.size + 2 ≤ a.block := fun a ha => by have := hA2 a ha; omega
  clear k0 k1 hcp HX1 HX0 HS2 HB2
  generalize World.alloc w2 _ = w3 at *
  clear hgdef
  go_loopw [13] (fun i wr => ∃ (V : Value) (ds' : List DevV), Hid (CPo W ⟨dA, dn, dc, ds, lA, ln, lc, ls⟩ wr g V A2 c2 ds') ∧ ds'.length ≤ dn ∧ i = .int .i64 ds'.length) (fun i _ => dn - (intOf i).toNat)
  case atStart => exact ⟨.slice none 0 0, [], HC0, by simp, rfl⟩
  case round =>
    clear HC0
    obtain ⟨V, ds', HC, hk, rfl⟩ := hrel
    obtain ⟨k, hkd⟩ : ∃ k, ds'.length = k := ⟨_, rfl⟩
    rw [hkd] at hk ⊢
    by_cases hlt : k < dn
    · obtain ⟨r, hr⟩ : ∃ r, ds[k]? = some r := ⟨_, List.getElem?_eq_getElem (by have : ds.length = dn := HDL.out; omega)⟩
      obtain ⟨b, o, rfl, _, _⟩ := (HNA.out _ HC.out.bl).ds.2 (by show 0 < dn; omega)
      obtain ⟨_, q0, q1, q2, q3, q4, q5, q6⟩ := dev_get (HNA.out _ HC.out.bl).ds hr
      have HDK := hide (fun (w' : World) (hb : RowKit.Below W.heap.size W w') => (HNA.out w' hb).dok r (List.mem_of_getElem? hr))
      have HRB := hide (HBN.out r (List.mem_of_getElem? hr))
      have HRR := hide hr
      have HLN := hide (show r.bs.length = r.bn ∧ r.rs.length = r.rn ∧ r.ts.length = r.tn from ⟨(HDK.out _ HC.out.bl).bs.1, (HDK.out _ HC.out.bl).rs.1, (HDK.out _ HC.out.bl).ts.1⟩)
      clear hr
      obtain ⟨nm, kd, ad, pl, bA, bn, bc, bs, rA, rn, rc, rs, tA, tn, tc, ts⟩ := r
      simp only at q0 q1 q2 q3 q4 q5 q6 HRB HDK HLN
      go_wp2
      have HCR := HC
      have hw4 := HC.out.below ((Below.refl _ wr).alloc (Nat.le_refl _) (.cells #[.string nm, .int .i64 kd, .int .i64 ad, .int .u8 pl, .slice bA bn bc, .slice rA rn rc, .slice tA tn tc] 61))
      have hx4 := DBoxF.new wr ⟨nm, kd, ad, pl, bA, bn, bc, bs, rA, rn, rc, rs, tA, tn, tc, ts⟩ 61
      have hz4 : (wr.alloc (.cells #[.string nm, .int .i64 kd, .int .i64 ad, .int .u8 pl, .slice bA bn bc, .slice rA rn rc, .slice tA tn tc] 61)).heap.size = wr.heap.size + 1 := by simp
      obtain ⟨h, hh⟩ : ∃ h, wr.heap.size = h := ⟨_, rfl⟩
      have hsz := HC.out.sz
      have HH4 := hide (And.intro hh (show Below wr.heap.size wr (wr.alloc (.cells #[.string nm, .int .i64 kd, .int .i64 ad, .int .u8 pl, .slice bA bn bc, .slice rA rn rc, .slice tA tn tc] 61)) from (Below.refl _ _).alloc (Nat.le_refl _) _))
      rw [hh] at hx4 hz4 hsz ⊢
      clear q0 q1 q2 q3 q4 q5 q6
      generalize World.alloc wr _ = w4 at *
      have HC4 := hide hw4
      have HQ := hide (fun (w' : World) (hb : Below w4.heap.size w4 w') => show DBoxF w' h ⟨nm, kd, ad, pl, bA, bn, bc, bs, rA, rn, rc, rs, tA, tn, tc, ts⟩ from hx4.below hb (by omega))
      have HW4 := hide (fun (w' : World) (hb : Below w4.heap.size w4 w') => show Below W.heap.size W w' from hw4.bl.trans (hb.mono hw4.bl.size))
      clear hw4 hx4 hh HC
      obtain ⟨⟨_, _, _, _, x4, x5, x6⟩, xf⟩ := HQ.out w4 (Below.refl _ _)
      simp only at x4 x5 x6
      refine wp_region_E (fun w' => w'.cell? ⟨h, 4, none⟩ = some (.slice bA bn bc) ∧ w'.cell? ⟨h, 5, none⟩ = some (.slice rA rn rc) ∧ w'.cell? ⟨h, 6, none⟩ = some (.slice tA tn tc)) 10 (by kernel_rfl) ⟨by simpa using x4, by simpa using x5, by simpa using x6⟩ (fun hS inv => ?_)
      refine wpAnyE_pure (i := 0) (v := ?_) rfl (by kernel_rfl) (by kernel_rfl) (by kernel_rfl) (by kernel_rfl) (fun _ _ _ h => h) inv (Or.inl ⟨by rfl, ?_⟩) (fun _ => hS) (fun inv => ?_)
      rotate_left
      · intro w _
        go_simp
        try with_reducible rfl
      try simp only [Act.put, nrmA, nrmB, nrmC]
      refine wpAnyE_pure (i := 3) (v := ?_) rfl (by kernel_rfl) (by kernel_rfl) (by kernel_rfl) (by kernel_rfl) (fun _ _ _ h => h) inv (Or.inl ⟨by rfl, ?_⟩) (fun _ => hS) (fun inv => ?_)
      rotate_left
      · intro w _
        go_simp
        try with_reducible rfl
      try simp only [Act.put, nrmA, nrmB, nrmC]
      refine wpAnyE_pure (i := 6) (v := ?_) rfl (by kernel_rfl) (by kernel_rfl) (by kernel_rfl) (by kernel_rfl) (fun _ _ _ h => h) inv (Or.inl ⟨by rfl, ?_⟩) (fun _ => hS) (fun inv => ?_)
      rotate_left
      · intro w _
        go_simp
        try with_reducible rfl
      try simp only [Act.put, nrmA, nrmB, nrmC]
      refine wpAnyE_load (i := 1) (v := ?_) [2, 5, 8, 10] rfl (by kernel_rfl) (by kernel_rfl) (by kernel_rfl) (by kernel_rfl) (fun _ _ _ h => h) inv (Or.inl ⟨by rfl, ?_⟩) hS (fun inv => ?_)
      rotate_left
      · intro w hSw
        obtain ⟨s1, s2, s3⟩ := hSw
        go_simp
        try with_reducible rfl
      try simp only [Act.put, nrmA, nrmB, nrmC]
      refine wpAnyE_load (i := 4) (v := ?_) [5, 8, 10] rfl (by kernel_rfl) (by kernel_rfl) (by kernel_rfl) (by kernel_rfl) (fun _ _ _ h => h) inv (Or.inl ⟨by rfl, ?_⟩) hS (fun inv => ?_)
      rotate_left
      · intro w hSw
        obtain ⟨s1, s2, s3⟩ := hSw
        go_simp
        try with_reducible rfl
      try simp only [Act.put, nrmA, nrmB, nrmC]
      refine wpAnyE_load (i := 7) (v := ?_) [8, 10] rfl (by kernel_rfl) (by kernel_rfl) (by kernel_rfl) (by kernel_rfl) (fun _ _ _ h => h) inv (Or.inl ⟨by rfl, ?_⟩) hS (fun inv => ?_)
      rotate_left
      · intro w hSw
        obtain ⟨s1, s2, s3⟩ := hSw
        go_simp
        try with_reducible rfl
      try simp only [Act.put, nrmA, nrmB, nrmC]
      refine rO 2 inv fun K hK => ?_
      go_simp
      go_at_call 18
      refine (bigInt_walk bs bA bn bc _ (by have := HRB.out.1; omega) (ints_sl (HDK.out _ (HW4.out _ (by first | exact Below.refl _ _ | exact (Below.refl _ _).drew))).bs)).mono ?_
      rintro e w5 ⟨v1, rfl, ho1, hb5⟩
      have H5 := hide (show Below w4.heap.size w4 w5 from by first | exact hb5 | exact ((Below.refl _ _).drew).trans hb5)
      have ho1 : w5.ownsRow w4.heap.size 3 1 v1 bn (bs.flatMap i64Cells) := ho1
      obtain ⟨B1, e1, rfl, he1, hs1, hg1⟩ := SlAt.of_own i64Cells_len ho1 HLN.out.1
      have HO1 := hide ho1
      clear he1 hs1 hg1
      obtain ⟨⟨_, _, _, _, x4, x5, x6⟩, xf⟩ := HQ.out w5 H5.out
      simp only at x4 x5 x6
      clear ho1 hb5
      go_wp2_with fail
      refine hK.out _ _ (fun _ => ⟨x4, x5, x6⟩) (fun inv => ?_)
      clear hK K hS
      have hS := And.intro x4 (And.intro x5 x6)
      try simp only [Act.put, nrmA, nrmB, nrmC]
      refine wpAnyE_pure (i := 9) (v := ?_) rfl (by kernel_rfl) (by kernel_rfl) (by kernel_rfl) (by kernel_rfl) (fun _ _ _ h => h) inv (Or.inl ⟨by rfl, ?_⟩) (fun _ => hS) (fun inv => ?_)
      rotate_left
      · intro w _
        go_simp
        try with_reducible rfl
      try simp only [Act.put, nrmA, nrmB, nrmC]
      refine rO 5 inv fun K hK => ?_
      go_simp
      go_at_call 19
      refine (cloneRule_walk rs rA rn rc _ (by have := HRB.out.2.1; omega) (HDK.out _ (HW4.out _ (by first | exact H5.out | exact H5.out.drew))).rs.sl).mono ?_
      rintro e w6 ⟨v2, rfl, ho2, hb6⟩
      have hb6 : Below w5.heap.size w5 w6 := (by first | exact hb6 | exact ((Below.refl _ _).drew).trans hb6)
      have H56 := hide hb6
      have H6 := hide (H5.out.trans (hb6.mono H5.out.size))
      have ho2 : w6.ownsRow w5.heap.size 55 5 v2 rn (rs.flatMap RuleV.cells) := ho2
      obtain ⟨B2, e2, rfl, he2, hs2, hg2⟩ := SlAt.of_own RuleV.len ho2 HLN.out.2.1
      have HO2 := hide ho2
      clear he2 hs2 hg2
      obtain ⟨⟨_, _, _, _, x4, x5, x6⟩, xf⟩ := HQ.out w6 H6.out
      simp only at x4 x5 x6
      clear ho2 hb6
      go_wp2_with fail
      refine hK.out _ _ (fun _ => ⟨x4, x5, x6⟩) (fun inv => ?_)
      clear hK K hS
      have hS := And.intro x4 (And.intro x5 x6)
      try simp only [Act.put, nrmA, nrmB, nrmC]
      refine rO 8 inv fun K hK => ?_
      go_simp
      go_at_call 20
      refine (bigRoute_walk ts tA tn tc _ (by have := HRB.out.2.2; omega) (HDK.out _ (HW4.out _ (by first | exact H6.out | exact H6.out.drew))).ts).mono ?_
      rintro e w7 ⟨v3, rfl, ho3, hb7⟩
      have hb7 : Below w6.heap.size w6 w7 := (by first | exact hb7 | exact ((Below.refl _ _).drew).trans hb7)
      have H67 := hide hb7
      have H7 := hide (H6.out.trans (hb7.mono H6.out.size))
      have ho3 : w7.ownsRow w6.heap.size 71 3 v3 tn (ts.flatMap RouteV.cells) := ho3
      obtain ⟨B3, e3, rfl, he3, hs3, hg3⟩ := SlAt.of_own RouteV.len ho3 HLN.out.2.2
      have HO3 := hide ho3
      clear he3 hs3 hg3
      obtain ⟨⟨_, _, _, _, x4, x5, x6⟩, xf⟩ := HQ.out w7 H7.out
      simp only at x4 x5 x6
      clear ho3 hb7
      go_wp2_with fail
      refine hK.out _ _ (fun _ => ⟨x4, x5, x6⟩) (fun inv => ?_)
      clear hK K hS
      have hS := And.intro x4 (And.intro x5 x6)
      try simp only [Act.put, nrmA, nrmB, nrmC]
      refine rT 10 inv fun K hK => ?_
      go_simp
      refine hK.out _ _ (fun inv => ?_)
      clear hK K
      try simp only [Act.put, nrmA, nrmB, nrmC]
      refine rT 11 inv fun K hK => ?_
      go_simp
      refine hK.out _ _ (fun inv => ?_)
      clear hK K
      try simp only [Act.put, nrmA, nrmB, nrmC]
      refine rT 12 inv fun K hK => ?_
      go_simp
      refine hK.out _ _ (fun inv => ?_)
      clear hK K
      try simp only [Act.put, nrmA, nrmB, nrmC]
      refine rT 13 inv fun K hK => ?_
      go_simp
      refine hK.out _ _ (fun inv => ?_)
      clear hK K
      try simp only [Act.put, nrmA, nrmB, nrmC]
      refine rT 14 inv fun K hK => ?_
      go_simp
      refine hK.out _ _ (fun inv => ?_)
      clear hK K
      try simp only [Act.put, nrmA, nrmB, nrmC]
      refine rD ?_
      have hb8 : Below wr.heap.size wr (set3 w7 h (.slice B1 bn e1) (.slice B2 rn e2) (.slice B3 tn e3)) := set3_below (HH4.out.2.trans (H7.out.mono HH4.out.2.size)) (by rw [HH4.out.1]; exact Nat.le_refl _) _ _ _
      have hx8 := (HQ.out w7 H7.out).set3 B1 B2 B3 bn rn tn e1 e2 e3 bs rs ts
      obtain ⟨hd8, hon8⟩ := dev_copied hz4 H5.out H56.out H67.out (HDK.out _ (HW4.out _ (Below.refl _ _))) HO1.out HO2.out HO3.out (.slice B1 bn e1) (.slice B2 rn e2) (.slice B3 tn e3)
      have ho8 := dev_own hz4 H5.out H56.out H67.out (HDK.out _ (HW4.out _ (Below.refl _ _))) HO1.out HO2.out HO3.out (.slice B1 bn e1) (.slice B2 rn e2) (.slice B3 tn e3)
      have hs8 := set3_size w7 h (.slice B1 bn e1) (.slice B2 rn e2) (.slice B3 tn e3)
      rw [← hs8] at hd8 hon8
      have HC8 := hide (HCR.out.below hb8)
      have HD8 := hide (show DevM _ _ from ⟨hd8, ho8⟩)
      have HN8 := hide (hon8.weak (q := fun q => g + 1 ≤ q ∧ q < (set3 w7 h (.slice B1 bn e1) (.slice B2 rn e2) (.slice B3 tn e3)).heap.size ∧ V.ownBlock ≠ some q) (fun q hq => ⟨by have := hq.1; omega, hq.2, fun e => by have h1 := (HCR.out.own.lt q e).2; have h2 := HH4.out.1; have := hq.1; omega⟩))
      clear hb8 hd8 hon8 ho8 hs8 H5 H56 H67 H6 H7 HO1 HO2 HO3 HQ HW4 HC4 HCR HH4 inv hS x4 x5 x6 xf
      unfold set3 at hx8 HC8 HD8 HN8
      generalize World.setCell (World.setCell (World.setCell w7 _ _) _ _) _ _ = w8 at *
      obtain ⟨⟨y0, y1, y2, y3, y4, y5, y6⟩, _⟩ := hx8
      simp only at y0 y1 y2 y3 y4 y5 y6
      have gx := HC8.out.gx.1
      have hba : Below w8.heap.size w8 (w8.alloc (.cells #[.string nm, .int .i64 kd, .int .i64 ad, .int .u8 pl, .slice B1 bn e1, .slice B2 rn e2, .slice B3 tn e3] 61)) := (Below.refl _ _).alloc (Nat.le_refl _) _
      have HCA := hide (HC8.out.below hba)
      have HDA := hide (HD8.out.below hba)
      have hza : (w8.alloc (.cells #[.string nm, .int .i64 kd, .int .i64 ad, .int .u8 pl, .slice B1 bn e1, .slice B2 rn e2, .slice B3 tn e3] 61)).heap.size = w8.heap.size + 1 := by simp
      have HNA2 := hide (HN8.out.weak (q := fun q => g + 1 ≤ q ∧ q < (w8.alloc (.cells #[.string nm, .int .i64 kd, .int .i64 ad, .int .u8 pl, .slice B1 bn e1, .slice B2 rn e2, .slice B3 tn e3] 61)).heap.size ∧ V.ownBlock ≠ some q) (fun q hq => ⟨hq.1, by rw [hza]; have := hq.2.1; omega, hq.2.2⟩))
      have HZA := hide hza
      have HSB := hide (show g + 1 ≤ w8.heap.size + 1 from by have := HC8.out.sz; omega)
      have HLIT := hide (show Reads (w8.alloc (.cells #[.string nm, .int .i64 kd, .int .i64 ad, .int .u8 pl, .slice B1 bn e1, .slice B2 rn e2, .slice B3 tn e3] 61)) (w8.heap.size + 1) 7 (some ⟨w8.heap.size, 0, none⟩) 1 (DevV.cells ⟨nm, kd, ad, pl, B1, bn, e1, bs, B2, rn, e2, rs, B3, tn, e3, ts⟩) from
        ⟨rfl, fun _ => ⟨_, rfl, Nat.lt_succ_self _, fun j u hu => by
          rw [addr_add, Nat.zero_add, cell_of_row _ _ _ _ _ _ (heap_alloc_new w8 _)]
          simpa [DevV.cells] using hu⟩⟩)
      clear hba hza HC8 HD8 HN8
      have HKD := hide hkd
      go_wp2_with (at_builtin; go_loud (refine wpList_append_any _ rfl (.tmp 30) (.tmp 32) 22 rfl (g + 1) 61 i0 _ 7 112 Try.underlying22 hi0 hy0 hy1 hy2 rfl (by omega) V ds'.length (ds'.flatMap DevV.cells) rfl HCA.out.own (w8.heap.size + 1) (some ⟨w8.heap.size, 0, none⟩) 1 1 _ rfl HLIT.out (DevV.one _) (by have := HKD.out; simp only [maxLen]; omega) (by have := HKD.out; omega) (by have h1 := HSB.out; have h2 := HZA.out; omega) ?_); intro v9 w9 hown9 hg9 hat9; obtain ⟨g9, cap9, rfl, _⟩ := hown9.form (by omega); obtain ⟨z0, z1, z2, z3⟩ := HCA.out.gx.below ((Below.refl (g + 1) _).grown hg9 (by have h1 := HSB.out; have h2 := HZA.out; omega) (fun q hq => (HCA.out.own.lt q hq).1)) (Nat.lt_succ_self g); have HO9 := hide hown9; have HG9 := hide hg9; have HT9 := hide hat9; clear hown9 hg9 hat9)
      have hcn := HCA.out.next ⟨nm, kd, ad, pl, B1, bn, e1, bs, B2, rn, e2, rs, B3, tn, e3, ts⟩ ⟨nm, kd, ad, pl, bA, bn, bc, bs, rA, rn, rc, rs, tA, tn, tc, ts⟩ HDA.out HNA2.out (by rw [HKD.out]; exact HRR.out) rfl HO9.out HG9.out HT9.out
      rw [HKD.out] at hcn
      have HN := hide hcn
      clear hcn
      go_roundw
      case rel => exact ⟨_, ds' ++ [⟨nm, kd, ad, pl, B1, bn, e1, bs, B2, rn, e2, rs, B3, tn, e3, ts⟩], HN, by simp; have := HKD.out; omega, by have := HKD.out; simp; omega⟩
      case measure => simp [intOf]; omega
    · obtain rfl : k = dn := by omega
      have hlen := hkd
      obtain ⟨A3, c3, rfl, hc3', hs3, hA3⟩ := SlAt.of_own DevV.len HC.out.own rfl
      have hcm : c3 ≤ maxLen := own_cap HC.out.own
      obtain ⟨k0, k1, f0, f1⟩ := HC.out.gx
      obtain ⟨r0, r1, f2, f3⟩ := HC.out.rx
      have HS3 := hide hs3
      rw [hlen] at k0 hc3'
      clear hs3 hlen
      have hgn : g ≠ W.heap.size + 1 := by have := HC.out.hg; omega
      go_wp2
      have hst : StayOn (fun q => q ≠ W.heap.size + 1) wr ((wr.setCell ⟨W.heap.size + 1, 0, none⟩ (.slice A3 k c3)).setCell ⟨W.heap.size + 1, 1, none⟩ (.slice A2 ln c2)) := (StayOn.of_set ⟨W.heap.size + 1, 0, none⟩ _).trans (StayOn.of_set ⟨W.heap.size + 1, 1, none⟩ _)
      have hszf : ((wr.setCell ⟨W.heap.size + 1, 0, none⟩ (.slice A3 k c3)).setCell ⟨W.heap.size + 1, 1, none⟩ (.slice A2 ln c2)).heap.size = wr.heap.size := by simp [World.setCell]
      have hgg := HC.out.hg
      have hsz := HC.out.sz
      refine bodyPost_ret (v := .agg #[.slice A3 k c3, .slice A2 ln c2]) (by simp [results, Try.f5, go_sem, r0, r1]) rfl ⟨⟨A3, k, c3, ds', A2, ln, c2, ls⟩, rfl, ?_, ?_, rfl, ?_, ?_, ?_⟩
      · refine ⟨?_, fun d hdd => ?_, ?_, (HNA.out _ HC.out.bl).lok, ⟨hc3', hcm⟩, HC.out.lcap⟩
        · rw [hszf]
          have hs3 := HS3.out
          rw [hkd] at hs3
          exact hs3.stay hst (fun a ha => by have := hA3 a ha; omega) (Nat.le_refl _)
        · rw [hszf]
          exact (HC.out.dev d hdd).a.stay hst ((HC.out.don d hdd).weak (fun q hq => by have := hq.1; omega)) (Nat.le_refl _)
        · rw [hszf]
          exact HC.out.lsl.stay hst (fun a ha => by have := hA2 a ha; omega) (by omega)
      · have := HC.out.same
        simp only [NetV.devs]
        rw [this, hkd, ← HDL.out, List.take_length]
      · exact (HC.out.bl.setCell (by show _ ≤ W.heap.size + 1; omega) _).setCell (by show _ ≤ W.heap.size + 1; omega) _
      · exact ⟨fun a ha => by have := hA3 a ha; omega, fun a ha => by have := hA2 a ha; omega, fun d hdd => (HC.out.don d hdd).weak (fun q hq => by have := hq.1; omega)⟩
      · have hbk : ∀ q, q ≠ W.heap.size + 1 → ((wr.setCell ⟨W.heap.size + 1, 0, none⟩ (.slice A3 k c3)).setCell ⟨W.heap.size + 1, 1, none⟩ (.slice A2 ln c2)).heap[q]? = wr.heap[q]? := fun q hq => (RowKit.Below.heap_setCell _ _ _ _ hq).trans (RowKit.Below.heap_setCell _ _ _ _ hq)
        have ho := HC.out.own
        rw [hkd] at ho
        exact ⟨own_same (ho.mono (Nat.zero_le _)) (fun q hq => hbk q (by have := (ho.lt q hq).1; omega)), hkd, HC.out.lrw.same (fun q hq => hbk q (by
          cases A2 with
          | none => cases hq
          | some a => cases hq; have := hA2 a rfl; show a.block ≠ _; omega)), fun d hdd => (HC.out.dev d hdd).o.same (HC.out.don d hdd) (fun q hq => hbk q (by have := hq.1; omega))⟩
end Go.Proofs.Ytifkacnoiocebaa
