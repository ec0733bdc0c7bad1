/- wirekeep.StepPins. -/
import Derived.Test.YtidikopjfpioaaaLawSet
set_option linter.unusedVariables false
set_option linter.unusedSimpArgs false
namespace Go.Proofs.Ytidikopjfpioaaa
open Go.RowKit Go.Maps

theorem ints_box {w : World} {N B : Nat} {l : List Int} (h : BoxV w N (l.flatMap i64Cells).toArray) (hN : N < B) (ho : ∀ x ∈ l, i64ok x) : IntsAt w B (some ⟨N, 0, none⟩) l.length l := sl_ints (slAt_box i64Cells_len h hN) ho
theorem one_dev : devE ⟨⟨#[100]⟩, 5, 5, 0, [6, 7], [], []⟩ = 0 := by decide

set_option maxRecDepth 100000 in
set_option maxHeartbeats 16000000 in
theorem stepPins_walk (ad : Int) (A : Option Addr) (n c : Nat) (bs : List Int) (p : P4) (ca cb : Int) (W : World) (hB : IntsAt W W.heap.size A n bs) (hc : n ≤ c ∧ c ≤ maxLen) (hp : p.ok) (had : i64ok ad) (hca : i64ok ca) (hcb : i64ok cb) :
    Calls Try.prog 8 #[.int .i64 ad, .slice A n c, .agg #[.int .i64 p.src, .int .i64 p.dst, .int .i64 p.sport, .int .i64 p.dport], .int .i64 ca, .int .i64 cb] W fun e W' => e = .returned (.bool true) ∧ Below W.heap.size W W' := by
  have HR := hide (fun (w' : World) (hb : Below W.heap.size W w') => hB.below hb hb.size)
  have HNL := hide hB.1
  have HC := hide hc
  have HAD := hide had
  have HCA := hide hca
  have HCB := hide hcb
  have HPK := hide hp
  have n3 : n ≤ 9223372036854775807 := by have := hc.1; have := hc.2; unfold maxLen at *; omega
  clear hB hc had hca hcb hp
  go_enter Try.func8, Try.ntmps8
  go_wp2_with fail
  generalize hG : World.alloc (World.alloc (World.alloc W _) _) _ = W1
  have HX1 := hide (show BX W [(W.heap.size, #[.int .i64 p.src, .int .i64 p.dst, .int .i64 p.sport, .int .i64 p.dport]), (W.heap.size + 1, #[.int .i64 6, .int .i64 7]), (W.heap.size + 1 + 1, #[.string ⟨#[]⟩, .int .i64 5, .int .i64 5, .int .u8 0, .slice (some ⟨W.heap.size + 1, 0, none⟩) 2 2, .slice none 0 0, .slice none 0 0])] W1 from by
    have e := boxesV (B := W1.heap.size) [(#[.int .i64 p.src, .int .i64 p.dst, .int .i64 p.sport, .int .i64 p.dport], 42), (#[.int .i64 6, .int .i64 7], 3), (#[.string ⟨#[]⟩, .int .i64 5, .int .i64 5, .int .u8 0, .slice (some ⟨W.heap.size + 1, 0, none⟩) 2 2, .slice none 0 0, .slice none 0 0], 30)] W (W' := W1) (by rw [← hG]; exact Below.refl _ _)
    have hs : W1.heap.size = W.heap.size + 3 := by rw [← hG]; simp
    refine ⟨e.2 (by omega), fun x hx => ?_⟩
    simp only [List.mem_cons, List.not_mem_nil, or_false] at hx
    rcases hx with rfl | rfl | rfl
    · exact ⟨e.1 0 _ _ rfl (by omega), by simp; omega⟩
    · exact ⟨e.1 1 _ _ rfl (by omega), by simp; omega⟩
    · exact ⟨e.1 2 _ _ rfl (by omega), by simp; omega⟩)
  clear hG
  have HCW := hide (chain_walk (balV (some ⟨W.heap.size + 1, 0, none⟩) 2 2 [6, 7] 5) W1 (balAt (ints_box (l := [6, 7]) (HX1.out.get 1 rfl) (HX1.out.bx _ (List.mem_of_getElem? (i := 1) rfl)).2 (by simp [i64ok])) ⟨Nat.le_refl _, show 2 ≤ maxLen by unfold maxLen; omega⟩ (by unfold i64ok; omega)))
  refine HCW.out.mono ?_
  clear HCW
  rintro e w4 ⟨m, rfl, hm, hmd, hml, hb⟩
  have HX4 := hide (HX1.out.below hb)
  have hE : netE m.devs m.ls = 0 := by rw [hmd, hml]; exact bal_net one_dev
  have HNW := hide (stepNew_ok m w4 hm hE)
  have HMD := hide (And.intro hmd hml)
  clear hm hb HX1 hE hmd hml
  go_wp2_with fail
  refine HNW.out.mono ?_
  clear HNW
  rintro e w5 ⟨g, f, o, b, m', rfl, hM, hd, hls, ⟨hg, hf, ho, hbb⟩, hb⟩
  have HF := hide (FA.new HX4.out hM ⟨hf, ho, hbb⟩ hb)
  have HN := hide (show m'.devs = chainD (balD 5 [6, 7]) ∧ m'.ls = chainL from ⟨hd.trans HMD.out.1, hls.trans HMD.out.2⟩)
  clear HX4 hM hd hls hf ho hbb hb hg HMD
  have HH := hide (fun (w' : World) (h : FA W [(W.heap.size, #[.int .i64 p.src, .int .i64 p.dst, .int .i64 p.sport, .int .i64 p.dport]), (W.heap.size + 1, #[.int .i64 6, .int .i64 7]), (W.heap.size + 1 + 1, #[.string ⟨#[]⟩, .int .i64 5, .int .i64 5, .int .u8 0, .slice (some ⟨W.heap.size + 1, 0, none⟩) 2 2, .slice none 0 0, .slice none 0 0])] g m' f o b MS.empty 0 w') =>
    h.start.hand (i := 1) (y := 0) (p := ⟨1, 5, 0, 0⟩) (ch := 1) (by rw [HN.out.1, HN.out.2]; exact bal_net one_dev) (by unfold i64ok; omega) (by unfold i64ok; omega) (by simp [P4.ok, i64ok]) (by unfold i64ok; omega) (by omega)
      (S := ⟨0, (2, 0), ⟨1, 7, 0, 0⟩, .back (1, ⟨1, 5, 0, 0⟩) 7⟩) (by rw [HN.out.1, HN.out.2]; exact bal_new_s (by decide) rfl rfl (by omega) rfl))
  simp only [HandS.val] at HH
  go_wp2_with ((go_at_call 48; refine (placeOf_walk 1 0 _).mono ?_; rintro e w6 ⟨rfl, hb⟩; have HF6 := hide (HF.out.below hb); clear hb HF))
  refine (HH.out _ HF6.out).mono ?_
  clear HH HF6 HN
  rintro e w7 ⟨rfl, hB⟩
  have HX7 := hide hB.fa.box
  clear hB
  have hd7 := fun (o : Obj) => cells7 ((HX7.out.below ((Below.refl _ _).alloc (Nat.le_refl _) o)).get 2 rfl)
  have d0 := fun (o : Obj) => (hd7 o).1.1
  have d1 := fun (o : Obj) => (hd7 o).1.2.1
  have d2 := fun (o : Obj) => (hd7 o).1.2.2.1
  have d3 := fun (o : Obj) => (hd7 o).1.2.2.2.1
  have d4 := fun (o : Obj) => (hd7 o).1.2.2.2.2.1
  have d5 := fun (o : Obj) => (hd7 o).1.2.2.2.2.2.1
  have d6 := fun (o : Obj) => (hd7 o).1.2.2.2.2.2.2
  have f2 := fun (o : Obj) => (hd7 o).2.1
  have f4 := fun (o : Obj) => (hd7 o).2.2
  clear hd7
  have n7 : w7.heap.size ≠ W.heap.size + 1 + 1 := by have := (HX7.out.bx _ (List.mem_of_getElem? (i := 2) rfl)).2; simp only at this; omega
  go_wp2_with fail
  generalize hG : World.setCell (World.setCell (World.alloc w7 _) _ _) _ _ = w8
  have HX8 := hide (show BX W [(W.heap.size, #[.int .i64 p.src, .int .i64 p.dst, .int .i64 p.sport, .int .i64 p.dport]), (W.heap.size + 1, #[.int .i64 6, .int .i64 7]), (W.heap.size + 1 + 1, #[.string ⟨#[]⟩, .int .i64 5, .int .i64 ad, .int .u8 0, .slice A n c, .slice none 0 0, .slice none 0 0])] w8 from by
    rw [← hG]
    exact ((HX7.out.below ((Below.refl _ _).alloc (Nat.le_refl _) _)).set 2 rfl (by exact nd_ne (by simp <;> omega) rfl) (by omega) 2 _).set 2 rfl (by exact nd_ne (by simp <;> omega) rfl) (by omega) 4 _)
  clear hG HX7 d0 d1 d2 d3 d4 d5 d6 f2 f4 n7
  have HCW := hide (chain_walk (balV A n c bs ad) w8 (balAt (HR.out _ HX8.out.bl) HC.out HAD.out))
  refine HCW.out.mono ?_
  clear HCW
  rintro e w9 ⟨m2, rfl, hm, hmd, hml, hb⟩
  have HX9 := hide (HX8.out.below hb)
  have HMD := hide (show m2.devs = chainD (balD ad bs) ∧ m2.ls = chainL from ⟨hmd, hml⟩)
  clear hb HX8 hmd hml
  by_cases hE : devE ⟨⟨#[100]⟩, 5, ad, 0, bs, [], []⟩ = 0
  case neg =>
    have hne : netE m2.devs m2.ls ≠ 0 := by rw [HMD.out.1, HMD.out.2, chain_bad (balD ad bs) hE]; exact hE
    have HNW := hide (stepNew_bad m2 w9 hm hne)
    obtain ⟨E, hEE⟩ : ∃ E, netE m2.devs m2.ls = E := ⟨_, rfl⟩
    rw [hEE] at HNW hne
    clear hEE hE hm
    have e1 : (E == 0) = false := by simpa using hne
    have e2 : (E != 0) = true := by simpa using hne
    clear hne
    go_wp2_with fail
    refine HNW.out.mono ?_
    rintro e w10 ⟨rfl, hb⟩
    have HX10 := hide (HX9.out.below hb)
    clear hb HNW
    go_wp2
    go_ret
    exact ⟨ret_bool (by simp), HX10.out.bl⟩
  have HBO := hide (bal_ok hE)
  have HE := hide hE
  have HNW := hide (stepNew_ok2 m2 w9 hm (by rw [HMD.out.1, HMD.out.2]; exact bal_net hE))
  clear hm hE
  go_wp2_with fail
  refine HNW.out.mono ?_
  clear HNW
  rintro e w11 ⟨g, f, o, b, m', rfl, hM, hd, hls, ⟨hg, hf, ho, hbb⟩, hb, hno⟩
  have HF := hide (FA.new HX9.out hM ⟨hf, ho, hbb⟩ hb)
  have HNO := hide hno
  have HGL := hide (show W.heap.size < w9.heap.size ∧ w9.heap.size ≤ g from ⟨(HX9.out.bx _ (List.mem_of_getElem? (i := 0) rfl)).2, hg⟩)
  have HN := hide (show m'.devs = chainD (balD ad bs) ∧ m'.ls = chainL from ⟨hd.trans HMD.out.1, hls.trans HMD.out.2⟩)
  have hdn : m'.dn ≤ 10 := by have q := devs_len hM.net; rw [hd, HMD.out.1] at q; rw [← q]; simp [chainD]
  clear HX9 hM hd hls hf ho hbb hb hg HMD hno
  obtain ⟨x0, x1, x2, x3⟩ := cells4 (HF.out.box.get 0 rfl)
  go_wp2_with fail
  refine (packetCheck_walk p _).mono ?_
  clear x0 x1 x2 x3
  rintro e w12 ⟨he, hb⟩
  have HF12 := hide (HF.out.below hb)
  clear hb HF
  cases hrp : rightB p
  · rw [hrp] at he
    obtain rfl : e = .returned (.int .i64 1) := he
    go_wp2
    go_ret
    exact ⟨ret_bool (by simp), HF12.out.box.bl⟩
  rw [hrp] at he
  obtain rfl : e = .returned (.int .i64 0) := he
  obtain ⟨x0, x1, x2, x3⟩ := cells4 (HF12.out.box.get 0 rfl)
  have xf : w12.frozen? ⟨W.heap.size, 1, none⟩ = false := (HF12.out.box.get 0 rfl).2 _
  go_wp2_with fail
  generalize hG : World.setCell w12 _ _ = w13
  obtain ⟨P, hP⟩ : ∃ P : P4, P = ⟨p.src, ad, p.sport, p.dport⟩ := ⟨_, rfl⟩
  have HF13 := hide (show FA W [(W.heap.size, #[.int .i64 P.src, .int .i64 P.dst, .int .i64 P.sport, .int .i64 P.dport]), (W.heap.size + 1, #[.int .i64 6, .int .i64 7]), (W.heap.size + 1 + 1, #[.string ⟨#[]⟩, .int .i64 5, .int .i64 ad, .int .u8 0, .slice A n c, .slice none 0 0, .slice none 0 0])] g m' f o b MS.empty 0 w13 from by
    rw [← hG, hP]
    exact HF12.out.set HNO.out 0 rfl (by exact nd_ne (by simp <;> omega) rfl) (Nat.le_refl _) HGL.out.1 (by have := HGL.out.1; have := HGL.out.2; omega) 1 _)
  have hPd : P.dst = ad := by rw [hP]
  have hPk : P.ok := by rw [hP]; exact ⟨HPK.out.1, HAD.out, HPK.out.2.2.1, HPK.out.2.2.2⟩
  have hPr : rightB P = true := by
    rw [hP]
    have h1 := HBO.out.1
    have h2 := HBO.out.2.1
    simp only [rightB, inR, Bool.and_eq_true, decide_eq_true_eq] at hrp ⊢
    omega
  have HPD := hide hPd
  have HPO := hide hPk
  have HPR := hide hPr
  clear hG x0 x1 x2 x3 xf HF12 hP hPd hPk hPr hrp HPK HGL HNO
  skip
  by_cases hin : 0 ≤ ca ∧ ca.toNat < bs.length
  case neg =>
    have HH := hide (fun (w' : World) (h : MemAt w' g m' f o b (MS.empty) 0) => (hand_walk g m' f o b (MS.empty) 0 1 0 (P) ca w' h (by rw [HN.out.1, HN.out.2]; exact bal_net HE.out) (by unfold i64ok; omega) (by unfold i64ok; omega) HPO.out HCA.out (by omega)))
    have HS1 := hide (show handS m'.devs m'.ls (MS.empty) 1 0 (P) ca = .bad 1 from by rw [HN.out.1, HN.out.2]; exact bal_bad_s HPR.out HPD.out rfl (by omega))
    simp only [HS1.out, HandS.val, HandS.bad, MS.learn, Nat.zero_add] at HH
    have HG := hide HF13.out.start
    obtain ⟨⟨p0, p1, p2, p3⟩, n1, n2⟩ := HG.out.at4 0 rfl
    apply cut_region (C := fun N w' => FA W ((N, #[.int .i64 0, .int .i64 0, .int .i64 0, .int .i64 0, .int .i64 0, .int .i64 0]) :: [(W.heap.size, #[.int .i64 P.src, .int .i64 P.dst, .int .i64 P.sport, .int .i64 P.dport]), (W.heap.size + 1, #[.int .i64 6, .int .i64 7]), (W.heap.size + 1 + 1, #[.string ⟨#[]⟩, .int .i64 5, .int .i64 ad, .int .u8 0, .slice A n c, .slice none 0 0, .slice none 0 0])]) g m' f o b MS.empty 1 w')
    · intro HK
      go_region_held3 (fun w' => w'.cell? ⟨W.heap.size, 0, none⟩ = some (.int .i64 P.src) ∧ w'.cell? ⟨W.heap.size, 1, none⟩ = some (.int .i64 P.dst) ∧ w'.cell? ⟨W.heap.size, 2, none⟩ = some (.int .i64 P.sport) ∧ w'.cell? ⟨W.heap.size, 3, none⟩ = some (.int .i64 P.dport)) (go_keep) (first | (go_at_call 48; refine (placeOf_walk 1 0 _).mono ?_; rintro e wp ⟨rfl, hb⟩; (first | have HG := hide (HG.out.d.below hb) | have HG := hide ((HG.out.al _ _).d.below hb) | have HG := hide (HG.out.below hb) | have HG := hide ((HG.out.al _ _).below hb)); obtain ⟨⟨p0, p1, p2, p3⟩, n1, n2⟩ := HG.out.at4 0 rfl; (try obtain ⟨⟨z0, z1, z2, z3, z4, z5⟩, f0, f1, f2, f3, f4, f5⟩ := cells6 (HG.out.z _ List.mem_cons_self).1)) | (go_at_call 47; refine (HH.out _ ?_).mono ?_; (first | exact HG.out.d.mem | exact (HG.out.al _ _).d.mem | exact HG.out.mem | exact (HG.out.al _ _).mem); rintro e wp ⟨rfl, hm, hn⟩; (first | have HG := hide (HG.out.d.step hm hn) | have HG := hide ((HG.out.al _ _).d.step hm hn) | have HG := hide (HG.out.step hm hn) | have HG := hide ((HG.out.al _ _).step hm hn)); obtain ⟨⟨p0, p1, p2, p3⟩, n1, n2⟩ := HG.out.at4 0 rfl; (try obtain ⟨⟨z0, z1, z2, z3, z4, z5⟩, f0, f1, f2, f3, f4, f5⟩ := cells6 (HG.out.z _ List.mem_cons_self).1)))
      all_goals (first | (obtain ⟨N', w', e1, e2, q⟩ := (HG.out.al #[.int .i64 0, .int .i64 0, .int .i64 0, .int .i64 0, .int .i64 0, .int .i64 0] 91).leaf; rw [e2, e1]; exact HK.out _ _ q) | (obtain ⟨N', w', e1, e2, q⟩ := (((((((HG.out.set 0 (.int .i64 0)).set 1 (.int .i64 0)).set 2 (.int .i64 0)).set 3 (.int .i64 0)).set 4 (.int .i64 0)).set 5 (.int .i64 0))).leaf; rw [e2, e1]; exact HK.out _ _ q))
    clear HG HF13
    intro N w15 hFN
    have HF15 := hide hFN
    clear hFN
    try clear HH HS1 p0 p1 p2 p3 n1 n2
    have hnl := HNL.out
    by_cases h0 : ca < 0
    · go_wp2
      go_ret
      exact ⟨ret_bool (by simp [h0]), HF15.out.box.bl⟩
    · have h1 : (n : Int) ≤ ca := by omega
      have h0' : decide (ca < 0) = false := by simpa using h0
      clear hin hnl
      go_wp2
      go_ret
      exact ⟨ret_bool (by simp [h1]), HF15.out.box.bl⟩
  obtain ⟨bk, hbk⟩ : ∃ bk, bs[ca.toNat]? = some bk := ⟨_, List.getElem?_eq_getElem hin.2⟩
  have HBK := hide hbk
  have hmem : bk ∈ bs := List.mem_of_getElem? hbk
  have hbr := HBO.out.2.2.1 bk hmem
  have HMB := hide hmem
  have HBR := hide hbr
  have HIN := hide hin
  clear hbk hmem hbr hin
  have HH := hide (fun (w' : World) (h : MemAt w' g m' f o b (MS.empty) 0) => (hand_walk g m' f o b (MS.empty) 0 1 0 (P) ca w' h (by rw [HN.out.1, HN.out.2]; exact bal_net HE.out) (by unfold i64ok; omega) (by unfold i64ok; omega) HPO.out HCA.out (by omega)))
  have HS1 := hide (show handS m'.devs m'.ls (MS.empty) 1 0 (P) ca = ⟨0, (2, 0), ⟨P.src, bk, P.sport, P.dport⟩, .back (1, P) bk⟩ from by rw [HN.out.1, HN.out.2]; exact bal_new_s HPR.out HPD.out rfl HIN.out.1 HBK.out)
  simp only [HS1.out, HandS.val, Nat.zero_add] at HH
  have HG := hide HF13.out.start
  obtain ⟨⟨p0, p1, p2, p3⟩, n1, n2⟩ := HG.out.at4 0 rfl
  apply cut_region (C := fun N w' => FA W ((N, #[.int .i64 2, .int .i64 0, .int .i64 P.src, .int .i64 bk, .int .i64 P.sport, .int .i64 P.dport]) :: [(W.heap.size, #[.int .i64 P.src, .int .i64 P.dst, .int .i64 P.sport, .int .i64 P.dport]), (W.heap.size + 1, #[.int .i64 6, .int .i64 7]), (W.heap.size + 1 + 1, #[.string ⟨#[]⟩, .int .i64 5, .int .i64 ad, .int .u8 0, .slice A n c, .slice none 0 0, .slice none 0 0])]) g m' f o b (MS.empty.learn (.back (1, P) bk)) 1 w')
  · intro HK
    go_region_held3 (fun w' => w'.cell? ⟨W.heap.size, 0, none⟩ = some (.int .i64 P.src) ∧ w'.cell? ⟨W.heap.size, 1, none⟩ = some (.int .i64 P.dst) ∧ w'.cell? ⟨W.heap.size, 2, none⟩ = some (.int .i64 P.sport) ∧ w'.cell? ⟨W.heap.size, 3, none⟩ = some (.int .i64 P.dport)) (go_keep) (first | (go_at_call 48; refine (placeOf_walk 1 0 _).mono ?_; rintro e wp ⟨rfl, hb⟩; (first | have HG := hide (HG.out.d.below hb) | have HG := hide ((HG.out.al _ _).d.below hb) | have HG := hide (HG.out.below hb) | have HG := hide ((HG.out.al _ _).below hb)); obtain ⟨⟨p0, p1, p2, p3⟩, n1, n2⟩ := HG.out.at4 0 rfl; (try obtain ⟨⟨z0, z1, z2, z3, z4, z5⟩, f0, f1, f2, f3, f4, f5⟩ := cells6 (HG.out.z _ List.mem_cons_self).1)) | (go_at_call 47; refine (HH.out _ ?_).mono ?_; (first | exact HG.out.d.mem | exact (HG.out.al _ _).d.mem | exact HG.out.mem | exact (HG.out.al _ _).mem); rintro e wp ⟨rfl, hm, hn⟩; (first | have HG := hide (HG.out.d.step hm hn) | have HG := hide ((HG.out.al _ _).d.step hm hn) | have HG := hide (HG.out.step hm hn) | have HG := hide ((HG.out.al _ _).step hm hn)); obtain ⟨⟨p0, p1, p2, p3⟩, n1, n2⟩ := HG.out.at4 0 rfl; (try obtain ⟨⟨z0, z1, z2, z3, z4, z5⟩, f0, f1, f2, f3, f4, f5⟩ := cells6 (HG.out.z _ List.mem_cons_self).1)))
    all_goals (first | (obtain ⟨N', w', e1, e2, q⟩ := (HG.out.al #[.int .i64 2, .int .i64 0, .int .i64 P.src, .int .i64 bk, .int .i64 P.sport, .int .i64 P.dport] 91).leaf; rw [e2, e1]; exact HK.out _ _ q) | (obtain ⟨N', w', e1, e2, q⟩ := (((((((HG.out.set 0 (.int .i64 2)).set 1 (.int .i64 0)).set 2 (.int .i64 P.src)).set 3 (.int .i64 bk)).set 4 (.int .i64 P.sport)).set 5 (.int .i64 P.dport))).leaf; rw [e2, e1]; exact HK.out _ _ q))
  clear HG HF13
  intro N w15 hFN
  have HF15 := hide hFN
  clear hFN
  try clear HH HS1 p0 p1 p2 p3 n1 n2
  have hM1 : (MS.empty.learn (.back (1, P) bk)).B (1, P) = some bk := by simp [MS.learn]
  generalize MS.empty.learn (.back (1, P) bk) = M1 at *
  have HM1 := hide hM1
  clear hM1
  obtain ⟨N1, hN1⟩ : ∃ N1, N = N1 := ⟨_, rfl⟩
  subst hN1
  go_wp2_with fail
  have HH := hide (fun (w' : World) (h : MemAt w' g m' f o b (M1) 1) => (hand_walk g m' f o b (M1) 1 1 0 (P) cb w' h (by rw [HN.out.1, HN.out.2]; exact bal_net HE.out) (by unfold i64ok; omega) (by unfold i64ok; omega) HPO.out HCB.out (by omega)))
  have HS1 := hide (show handS m'.devs m'.ls (M1) 1 0 (P) cb = ⟨0, (2, 0), ⟨P.src, bk, P.sport, P.dport⟩, .back (1, P) bk⟩ from by rw [HN.out.1, HN.out.2]; exact bal_old_s HPR.out HPD.out HM1.out)
  simp only [HS1.out, HandS.val, Nat.zero_add] at HH
  have HG := hide HF15.out.start
  obtain ⟨⟨p0, p1, p2, p3⟩, n1, n2⟩ := HG.out.at4 1 rfl
  apply cut_region (C := fun NY w' => FA W ((NY, #[.int .i64 2, .int .i64 0, .int .i64 P.src, .int .i64 bk, .int .i64 P.sport, .int .i64 P.dport]) :: ((N, #[.int .i64 2, .int .i64 0, .int .i64 P.src, .int .i64 bk, .int .i64 P.sport, .int .i64 P.dport]) :: [(W.heap.size, #[.int .i64 P.src, .int .i64 P.dst, .int .i64 P.sport, .int .i64 P.dport]), (W.heap.size + 1, #[.int .i64 6, .int .i64 7]), (W.heap.size + 1 + 1, #[.string ⟨#[]⟩, .int .i64 5, .int .i64 ad, .int .u8 0, .slice A n c, .slice none 0 0, .slice none 0 0])])) g m' f o b (M1.learn (.back (1, P) bk)) 2 w')
  · intro HK
    go_region_held3 (fun w' => w'.cell? ⟨W.heap.size, 0, none⟩ = some (.int .i64 P.src) ∧ w'.cell? ⟨W.heap.size, 1, none⟩ = some (.int .i64 P.dst) ∧ w'.cell? ⟨W.heap.size, 2, none⟩ = some (.int .i64 P.sport) ∧ w'.cell? ⟨W.heap.size, 3, none⟩ = some (.int .i64 P.dport)) (go_keep) (first | (go_at_call 48; refine (placeOf_walk 1 0 _).mono ?_; rintro e wp ⟨rfl, hb⟩; (first | have HG := hide (HG.out.d.below hb) | have HG := hide ((HG.out.al _ _).d.below hb) | have HG := hide (HG.out.below hb) | have HG := hide ((HG.out.al _ _).below hb)); obtain ⟨⟨p0, p1, p2, p3⟩, n1, n2⟩ := HG.out.at4 1 rfl; (try obtain ⟨⟨z0, z1, z2, z3, z4, z5⟩, f0, f1, f2, f3, f4, f5⟩ := cells6 (HG.out.z _ List.mem_cons_self).1)) | (go_at_call 47; refine (HH.out _ ?_).mono ?_; (first | exact HG.out.d.mem | exact (HG.out.al _ _).d.mem | exact HG.out.mem | exact (HG.out.al _ _).mem); rintro e wp ⟨rfl, hm, hn⟩; (first | have HG := hide (HG.out.d.step hm hn) | have HG := hide ((HG.out.al _ _).d.step hm hn) | have HG := hide (HG.out.step hm hn) | have HG := hide ((HG.out.al _ _).step hm hn)); obtain ⟨⟨p0, p1, p2, p3⟩, n1, n2⟩ := HG.out.at4 1 rfl; (try obtain ⟨⟨z0, z1, z2, z3, z4, z5⟩, f0, f1, f2, f3, f4, f5⟩ := cells6 (HG.out.z _ List.mem_cons_self).1)))
    all_goals (first | (obtain ⟨N', w', e1, e2, q⟩ := (HG.out.al #[.int .i64 2, .int .i64 0, .int .i64 P.src, .int .i64 bk, .int .i64 P.sport, .int .i64 P.dport] 91).leaf; rw [e2, e1]; exact HK.out _ _ q) | (obtain ⟨N', w', e1, e2, q⟩ := (((((((HG.out.set 0 (.int .i64 2)).set 1 (.int .i64 0)).set 2 (.int .i64 P.src)).set 3 (.int .i64 bk)).set 4 (.int .i64 P.sport)).set 5 (.int .i64 P.dport))).leaf; rw [e2, e1]; exact HK.out _ _ q))
  clear HG HF15
  intro NY w17 hFN
  have HF17 := hide hFN
  clear hFN
  try clear HH HS1 p0 p1 p2 p3 n1 n2
  have hM2 : (M1.learn (.back (1, P) bk)).B (1, P) = some bk := by simp [MS.learn]
  generalize M1.learn (.back (1, P) bk) = M2 at *
  have HM2 := hide hM2
  clear hM2 HM1
  obtain ⟨⟨y0, y1, y2, y3, y4, y5⟩, _⟩ := cells6 (HF17.out.box.get 0 rfl)
  obtain ⟨⟨z0, z1, z2, z3, z4, z5⟩, _⟩ := cells6 (HF17.out.box.get 1 rfl)
  go_wp2_with fail
  refine (contains_yes bs A n c bk _ n3 (HR.out _ HF17.out.box.bl) HMB.out).mono ?_
  clear y0 y1 y2 y3 y4 y5 z0 z1 z2 z3 z4 z5
  rintro e w18 ⟨rfl, hb⟩
  have HF18 := hide (HF17.out.below hb).less
  clear hb HF17
  go_wp2_with fail
  have HFL := hide (fun (w' : World) => flip_walk ⟨P.src, bk, P.sport, P.dport⟩ w')
  simp only at HFL
  have HH := hide (fun (w' : World) (h : MemAt w' g m' f o b (M2) 2) => (hand_walk g m' f o b (M2) 2 1 1 (⟨bk, P.src, P.dport, P.sport⟩) cb w' h (by rw [HN.out.1, HN.out.2]; exact bal_net HE.out) (by unfold i64ok; omega) (by unfold i64ok; omega) ⟨by have := HBR.out; show i64ok bk; unfold i64ok; omega, HPO.out.1, HPO.out.2.2.2, HPO.out.2.2.1⟩ HCB.out (by omega)))
  have hqr : rightB ⟨bk, P.src, P.dport, P.sport⟩ = true := by
    have h1 := HBR.out
    have h2 := HPR.out
    simp only [rightB, inR, Bool.and_eq_true, decide_eq_true_eq] at h2 ⊢
    omega
  have hkey : (⟨P.src, ad, P.sport, P.dport⟩ : P4) = P := by rw [← HPD.out]
  have HS1 := hide (show handS m'.devs m'.ls (M2) 1 1 (⟨bk, P.src, P.dport, P.sport⟩) cb = ⟨0, (0, 0), ⟨P.dst, P.src, P.dport, P.sport⟩, .nothing⟩ from by rw [HN.out.1, HN.out.2]; rw [HPD.out]; exact bal_in_s hqr (by show M2.B (1, ⟨P.src, ad, P.sport, P.dport⟩) = some bk; rw [hkey]; exact HM2.out))
  clear hqr hkey
  simp only [HS1.out, HandS.val, MS.learn, Nat.zero_add] at HH
  have HG := hide HF18.out.start
  obtain ⟨⟨p0, p1, p2, p3⟩, n1, n2⟩ := HG.out.at6 0 rfl
  apply cut_region (C := fun NY w' => FA W ((NY, #[.int .i64 0, .int .i64 0, .int .i64 P.dst, .int .i64 P.src, .int .i64 P.dport, .int .i64 P.sport]) :: ((N, #[.int .i64 2, .int .i64 0, .int .i64 P.src, .int .i64 bk, .int .i64 P.sport, .int .i64 P.dport]) :: [(W.heap.size, #[.int .i64 P.src, .int .i64 P.dst, .int .i64 P.sport, .int .i64 P.dport]), (W.heap.size + 1, #[.int .i64 6, .int .i64 7]), (W.heap.size + 1 + 1, #[.string ⟨#[]⟩, .int .i64 5, .int .i64 ad, .int .u8 0, .slice A n c, .slice none 0 0, .slice none 0 0])])) g m' f o b M2 3 w')
  · intro HK
    go_region_held3 (fun w' => w'.cell? ⟨N, 2, none⟩ = some (.int .i64 P.src) ∧ w'.cell? ⟨N, 3, none⟩ = some (.int .i64 bk) ∧ w'.cell? ⟨N, 4, none⟩ = some (.int .i64 P.sport) ∧ w'.cell? ⟨N, 5, none⟩ = some (.int .i64 P.dport)) (go_keep) (first | (go_at_call 48; refine (placeOf_walk 1 1 _).mono ?_; rintro e wp ⟨rfl, hb⟩; (first | have HG := hide (HG.out.d.below hb) | have HG := hide ((HG.out.al _ _).d.below hb) | have HG := hide (HG.out.below hb) | have HG := hide ((HG.out.al _ _).below hb)); obtain ⟨⟨p0, p1, p2, p3⟩, n1, n2⟩ := HG.out.at6 0 rfl; (try obtain ⟨⟨z0, z1, z2, z3, z4, z5⟩, f0, f1, f2, f3, f4, f5⟩ := cells6 (HG.out.z _ List.mem_cons_self).1)) | (go_at_call 49; refine (HFL.out _).mono ?_; rintro e wp ⟨rfl, hb⟩; (first | have HG := hide (HG.out.d.below hb) | have HG := hide ((HG.out.al _ _).d.below hb) | have HG := hide (HG.out.below hb) | have HG := hide ((HG.out.al _ _).below hb)); obtain ⟨⟨p0, p1, p2, p3⟩, n1, n2⟩ := HG.out.at6 0 rfl; (try obtain ⟨⟨z0, z1, z2, z3, z4, z5⟩, f0, f1, f2, f3, f4, f5⟩ := cells6 (HG.out.z _ List.mem_cons_self).1)) | (go_at_call 47; refine (HH.out _ ?_).mono ?_; (first | exact HG.out.d.mem | exact (HG.out.al _ _).d.mem | exact HG.out.mem | exact (HG.out.al _ _).mem); rintro e wp ⟨rfl, hm, hn⟩; (first | have HG := hide (HG.out.d.step hm hn) | have HG := hide ((HG.out.al _ _).d.step hm hn) | have HG := hide (HG.out.step hm hn) | have HG := hide ((HG.out.al _ _).step hm hn)); obtain ⟨⟨p0, p1, p2, p3⟩, n1, n2⟩ := HG.out.at6 0 rfl; (try obtain ⟨⟨z0, z1, z2, z3, z4, z5⟩, f0, f1, f2, f3, f4, f5⟩ := cells6 (HG.out.z _ List.mem_cons_self).1)))
    all_goals (first | (obtain ⟨N', w', e1, e2, q⟩ := (HG.out.al #[.int .i64 0, .int .i64 0, .int .i64 P.dst, .int .i64 P.src, .int .i64 P.dport, .int .i64 P.sport] 91).leaf; rw [e2, e1]; exact HK.out _ _ q) | (obtain ⟨N', w', e1, e2, q⟩ := (((((((HG.out.set 0 (.int .i64 0)).set 1 (.int .i64 0)).set 2 (.int .i64 P.dst)).set 3 (.int .i64 P.src)).set 4 (.int .i64 P.dport)).set 5 (.int .i64 P.sport))).leaf; rw [e2, e1]; exact HK.out _ _ q))
  clear HG HF18
  intro NY w20 hFN
  have HF20 := hide hFN
  clear hFN
  try clear HFL HH HS1 p0 p1 p2 p3 n1 n2
  go_wp2_with fail
  have HFO1 := hide (fun (w' : World) (h : MemAt w' g m' f o b M2 3) => forget_walk g m' f o b M2 3 1 P 0 w' h hdn (by unfold i64ok; omega) HPO.out (by unfold i64ok; omega))
  have hif : (if (M2.B (1, P)).isSome = true then (0 : Int) else 7) = 0 := by rw [HM2.out]; rfl
  rw [HN.out.1] at HFO1
  simp only [bal_forget, hif] at HFO1
  have hM3 : (M2.drop (.back (1, P))).B (1, P) = none := if_pos rfl
  generalize M2.drop (.back (1, P)) = M3 at *
  have HFO2 := hide (fun (w' : World) (h : MemAt w' g m' f o b M3 3) => forget_walk g m' f o b M3 3 1 P 0 w' h hdn (by unfold i64ok; omega) HPO.out (by unfold i64ok; omega))
  have hif2 : (if (M3.B (1, P)).isSome = true then (0 : Int) else 7) = 7 := by rw [hM3]; rfl
  rw [HN.out.1] at HFO2
  simp only [bal_forget, hif2] at HFO2
  clear hif hif2 hM3
  have HG := hide HF20.out.start
  obtain ⟨⟨p0, p1, p2, p3⟩, n1, n2⟩ := HG.out.at4 2 rfl
  obtain ⟨⟨q0, q1, q2, q3⟩, n3', n4'⟩ := HG.out.at6 0 rfl
  go_region_held3 (fun w' => w'.cell? ⟨W.heap.size, 0, none⟩ = some (.int .i64 P.src) ∧ w'.cell? ⟨W.heap.size, 1, none⟩ = some (.int .i64 P.dst) ∧ w'.cell? ⟨W.heap.size, 2, none⟩ = some (.int .i64 P.sport) ∧ w'.cell? ⟨W.heap.size, 3, none⟩ = some (.int .i64 P.dport) ∧ w'.cell? ⟨NY, 2, none⟩ = some (.int .i64 P.dst) ∧ w'.cell? ⟨NY, 3, none⟩ = some (.int .i64 P.src) ∧ w'.cell? ⟨NY, 4, none⟩ = some (.int .i64 P.dport) ∧ w'.cell? ⟨NY, 5, none⟩ = some (.int .i64 P.sport)) (go_keep) (first | (go_at_call 49; refine (flip_walk P _).mono ?_; rintro e wp ⟨rfl, hb⟩; (first | have HG := hide (HG.out.d.below hb) | have HG := hide (HG.out.below hb)); obtain ⟨⟨p0, p1, p2, p3⟩, n1, n2⟩ := HG.out.at4 2 rfl; obtain ⟨⟨q0, q1, q2, q3⟩, n3', n4'⟩ := HG.out.at6 0 rfl) | (go_at_call 51; first | (refine (HFO1.out _ (by first | exact HG.out.d.mem | exact HG.out.mem)).mono ?_; rintro e wp ⟨rfl, hm, hn⟩; (first | have HG := hide (HG.out.d.step hm hn) | have HG := hide (HG.out.step hm hn)); obtain ⟨⟨p0, p1, p2, p3⟩, n1, n2⟩ := HG.out.at4 2 rfl; obtain ⟨⟨q0, q1, q2, q3⟩, n3', n4'⟩ := HG.out.at6 0 rfl) | (refine (HFO2.out _ (by first | exact HG.out.d.mem | exact HG.out.mem)).mono ?_; rintro e wp ⟨rfl, hm, hn⟩; (first | have HG := hide (HG.out.d.step hm hn) | have HG := hide (HG.out.step hm hn)); obtain ⟨⟨p0, p1, p2, p3⟩, n1, n2⟩ := HG.out.at4 2 rfl; obtain ⟨⟨q0, q1, q2, q3⟩, n3', n4'⟩ := HG.out.at6 0 rfl)))
  have HFz := hide HG.out.fa
  clear HG
  go_wp2
  go_ret
  exact ⟨ret_bool (by simp), HFz.out.box.bl⟩
end Go.Proofs.Ytidikopjfpioaaa
