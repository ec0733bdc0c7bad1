/- wirekeep.StepFire. -/
import Derived.Test.YtidikopjfpioaaaLawFB
set_option linter.unusedVariables false
set_option linter.unusedSimpArgs false
namespace Go.Proofs.Ytidikopjfpioaaa
open Go.RowKit Go.Maps

theorem all_lets : letsB [allR true] ⟨1, 2, 0, 0⟩ = true := by decide
/-- A device of a fire. -/
def fireV (A : Option Addr) (n c : Nat) (R : List RuleV) : DevV := ⟨⟨#[]⟩, 3, 0, 0, none, 0, 0, [], A, n, c, R, none, 0, 0, []⟩
theorem fireAt {w : World} {B : Nat} {A : Option Addr} {n c : Nat} {R : List RuleV} (h : RulesAt w B A n R) (hc : n ≤ c ∧ c ≤ maxLen) : DevAt w B (fireV A n c R) :=
  ⟨Nat.zero_le _, by simp [fireV, i64ok], by simp [fireV, i64ok], by simp [fireV], ⟨rfl, fun x hx => by simp [fireV] at hx, fun h0 => absurd h0 (Nat.lt_irrefl _)⟩, h, ⟨rfl, fun h0 => absurd h0 (Nat.lt_irrefl _)⟩, fun r hr => by simp [fireV] at hr, by simp [fireV], hc, by simp [fireV]⟩
theorem one_rule {w : World} {N B : Nat} (h : BoxV w N #[.bool true, .int .u16 65535, .int .u16 65535, .int .u8 255, .int .u8 255]) (hN : N < B) : RulesAt w B (some ⟨N, 0, none⟩) 1 [allR true] :=
  (show SlAt RuleV.cells 5 w B (some ⟨N, 0, none⟩) [allR true].length [allR true] from slAt_box RuleV.len h hN).rules (fun r hr => by
    obtain rfl := List.mem_singleton.1 hr
    exact allR_ok _)

set_option maxRecDepth 100000 in
set_option maxHeartbeats 16000000 in
theorem stepFire_walk (R : List RuleV) (A : Option Addr) (n c : Nat) (p q : P4) (W : World) (hR : RulesAt W W.heap.size A n R) (hc : n ≤ c ∧ c ≤ maxLen) (hp : p.ok) (hq : q.ok) :
    Calls Try.prog 9 #[.slice A n c, .agg #[.int .i64 p.src, .int .i64 p.dst, .int .i64 p.sport, .int .i64 p.dport], .agg #[.int .i64 q.src, .int .i64 q.dst, .int .i64 q.sport, .int .i64 q.dport]] W fun e W' => e = .returned (.bool true) ∧ Below W.heap.size W W' := by
  have HR := hide (fun (w' : World) (hb : Below W.heap.size W w') => hR.below hb hb.size)
  have hnl := hR.1
  have HC := hide hc
  have HNL := hide hnl
  have n3 : n ≤ 9223372036854775807 := by have := hc.1; have := hc.2; unfold maxLen at *; omega
  clear hR hc
  go_enter Try.func9, Try.ntmps9
  go_wp2_with fail
  generalize hG : World.alloc (World.alloc W _) _ = W1
  have HX1 := hide (show BX W [(W.heap.size, #[.int .i64 p.src, .int .i64 p.dst, .int .i64 p.sport, .int .i64 p.dport]), (W.heap.size + 1, #[.int .i64 q.src, .int .i64 q.dst, .int .i64 q.sport, .int .i64 q.dport])] W1 from by
    have e := boxesV (B := W1.heap.size) [(#[.int .i64 p.src, .int .i64 p.dst, .int .i64 p.sport, .int .i64 p.dport], 42), (#[.int .i64 q.src, .int .i64 q.dst, .int .i64 q.sport, .int .i64 q.dport], 42)] W (W' := W1) (by rw [← hG]; exact Below.refl _ _)
    have hs : W1.heap.size = W.heap.size + 2 := by rw [← hG]; simp
    refine ⟨e.2 (by omega), fun x hx => ?_⟩
    simp only [List.mem_cons, List.not_mem_nil, or_false] at hx
    rcases hx with rfl | rfl
    · exact ⟨e.1 0 _ _ rfl (by omega), by simp; omega⟩
    · exact ⟨e.1 1 _ _ rfl (by omega), by simp; omega⟩)
  clear hG
  refine (allRule_walk true W1).mono ?_
  rintro e w2 ⟨rfl, hb⟩
  have HX2 := hide (HX1.out.below hb)
  clear hb HX1
  have hx3 := BoxV.new w2 #[.bool true, .int .u16 65535, .int .u16 65535, .int .u8 255, .int .u8 255] 105
  have hb3 : Below w2.heap.size w2 (w2.alloc (.cells #[.bool true, .int .u16 65535, .int .u16 65535, .int .u8 255, .int .u8 255] 105)) := (Below.refl _ _).alloc (Nat.le_refl _) _
  have hl3 : w2.heap.size < (w2.alloc (.cells #[.bool true, .int .u16 65535, .int .u16 65535, .int .u8 255, .int .u8 255] 105)).heap.size := by simp
  have HX3 := hide (HX2.out.below hb3)
  have HCW := hide (chain_walk (fireV (some ⟨w2.heap.size, 0, none⟩) 1 1 [allR true]) _ (fireAt (one_rule hx3 hl3) ⟨Nat.le_refl _, show 1 ≤ maxLen by unfold maxLen; omega⟩))
  clear hx3 hb3 hl3 HX2
  go_wp2_with fail
  refine HCW.out.mono ?_
  clear HCW
  rintro e w4 ⟨m, rfl, hm, hmd, hml, hb⟩
  have HX4 := hide (HX3.out.below hb)
  have hE : netE m.devs m.ls = 0 := by rw [hmd, hml]; exact fire_net [allR true] (by simp)
  have HNW := hide (stepNew_ok m w4 hm hE)
  have HMD := hide (And.intro hmd hml)
  clear hm hb HX3 hE hmd hml
  go_wp2_with fail
  refine HNW.out.mono ?_
  clear HNW
  rintro e w5 ⟨g, f, o, b, m', rfl, hM, hd, hls, ⟨hg, hf, ho, hbb⟩, hb⟩
  have HF := hide (FA.new HX4.out hM ⟨hf, ho, hbb⟩ hb)
  have HN := hide (show m'.devs = chainD (fireD [allR true]) ∧ m'.ls = chainL from ⟨hd.trans HMD.out.1, hls.trans HMD.out.2⟩)
  clear HX4 hM hd hls hf ho hbb hb hg HMD
  have HH := hide (fun (w' : World) (h : FA W [(W.heap.size, #[.int .i64 p.src, .int .i64 p.dst, .int .i64 p.sport, .int .i64 p.dport]), (W.heap.size + 1, #[.int .i64 q.src, .int .i64 q.dst, .int .i64 q.sport, .int .i64 q.dport])] g m' f o b MS.empty 0 w') =>
    h.start.hand (i := 1) (y := 0) (p := ⟨1, 2, 0, 0⟩) (ch := 0) (by rw [HN.out.1, HN.out.2]; exact fire_net [allR true] (by simp)) (by unfold i64ok; omega) (by unfold i64ok; omega) (by simp [P4.ok, i64ok]) (by unfold i64ok; omega) (by omega)
      (S := ⟨0, (2, 0), ⟨1, 2, 0, 0⟩, .flow (1, ⟨1, 2, 0, 0⟩)⟩) (by rw [HN.out.1, HN.out.2, fire_out_s _ _ _ _ (by decide), if_pos all_lets]))
  simp only [HandS.val] at HH
  go_wp2_with ((go_at_call 48; refine (placeOf_walk 1 0 _).mono ?_; rintro e w6 ⟨rfl, hb⟩; have HF6 := hide (HF.out.below hb); clear hb HF))
  refine (HH.out _ HF6.out).mono ?_
  clear HH HF6
  rintro e w7 ⟨rfl, hB⟩
  have HF7 := hide hB
  clear hB
  go_wp2_with fail
  have hf8 := HF7.out.al #[.int .i64 2, .int .i64 0, .int .i64 1, .int .i64 2, .int .i64 0, .int .i64 0] 91
  obtain ⟨N8, hN8⟩ : ∃ N8, w7.heap.size = N8 := ⟨_, rfl⟩
  rw [hN8] at hf8 ⊢
  clear hN8 HF7
  generalize World.alloc w7 _ = w8 at *
  have HF8 := hide hf8
  clear hf8
  refine wp_region_abs (by kernel_rfl) (by kernel_rfl) ?_
  intro T hT gt hg1 hgi
  have HGT := hide hg1
  have HGI := hide hgi
  clear hg1 hgi
  have k0 : ∀ t, (gt t).cell? ⟨N8, 0, none⟩ = some (.int .i64 2) := fun t => ((HF8.out.below (HGT.out t)).z _ List.mem_cons_self).1.1 0 _ rfl
  have k1 : ∀ t, (gt t).cell? ⟨N8, 1, none⟩ = some (.int .i64 0) := fun t => ((HF8.out.below (HGT.out t)).z _ List.mem_cons_self).1.1 1 _ rfl
  repeat (go_big_quiet_step ((go_at_call 48; exact inAbs HGT.out HGI.out (placeOf_walk 2 0 _))))
  refine wpQuiet_nil ?_
  intro _ hw'
  obtain ⟨t, rfl⟩ := hw'
  have HX9 := hide ((HF8.out.below (HGT.out t)).fa).box
  generalize gt t = w9 at *
  clear k0 k1 HGT HGI HF8 HN
  have HCW := hide (fun (w' : World) (h : BX W [(W.heap.size, #[.int .i64 p.src, .int .i64 p.dst, .int .i64 p.sport, .int .i64 p.dport]), (W.heap.size + 1, #[.int .i64 q.src, .int .i64 q.dst, .int .i64 q.sport, .int .i64 q.dport])] w') => chain_walk (fireV A n c R) w' (fireAt (HR.out w' h.bl) HC.out))
  go_wp2_with fail
  refine (HCW.out _ HX9.out).mono ?_
  clear HCW
  rintro e w10 ⟨m2, rfl, hm, hmd, hml, hb⟩
  have HX10 := hide (HX9.out.below hb)
  have HMD := hide (show m2.devs = chainD (fireD R) ∧ m2.ls = chainL from ⟨hmd, hml⟩)
  clear hb HX9 hmd hml
  by_cases h8 : 8 < n
  · have HNW := hide (stepNew_bad m2 w10 hm (by rw [HMD.out.1, HMD.out.2, fire_many R (by omega)]; decide))
    rw [HMD.out.1, HMD.out.2, fire_many R (by omega)] at HNW
    go_wp2_with fail
    refine HNW.out.mono ?_
    rintro e w11 ⟨rfl, hb⟩
    have HX11 := hide (HX10.out.below hb)
    clear hb HNW hm
    have h8' : (8 : Int) < (n : Int) := by omega
    go_wp2
    go_ret
    exact ⟨ret_bool (by simp), HX11.out.bl⟩
  have hE : netE m2.devs m2.ls = 0 := by rw [HMD.out.1, HMD.out.2]; exact fire_net R (by omega)
  have HNW := hide (stepNew_ok m2 w10 hm hE)
  clear hm hE
  go_wp2_with fail
  refine HNW.out.mono ?_
  clear HNW
  rintro e w11 ⟨g, f, o, b, m', rfl, hM, hd, hls, ⟨hg, hf, ho, hbb⟩, hb⟩
  have HF := hide (FA.new HX10.out hM ⟨hf, ho, hbb⟩ hb)
  have HN := hide (show (m'.devs = chainD (fireD R) ∧ m'.ls = chainL) ∧ R.length ≤ 8 from ⟨⟨hd.trans HMD.out.1, hls.trans HMD.out.2⟩, by omega⟩)
  have hdn : m'.dn ≤ 10 := by have q := devs_len hM.net; rw [hd, HMD.out.1] at q; rw [← q]; simp [chainD]
  have h8' : decide ((8 : Int) < (n : Int)) = false := by simp; omega
  clear HX10 hM hd hls hf ho hbb hb hg HMD
  obtain ⟨x0, x1, x2, x3⟩ := cells4 (HF.out.box.get 0 rfl)
  go_wp2_with fail
  refine (packetCheck_walk p _).mono ?_
  clear x0 x1 x2 x3
  rintro e w12 ⟨he, hb⟩
  have HF12 := hide (HF.out.below hb)
  clear hb HF
  cases hrp : rightB p
  · rw [hrp] at he
    obtain rfl : e = .returned (.int .i64 1) := he
    go_wp2
    go_ret
    exact ⟨ret_bool (by simp), HF12.out.box.bl⟩
  rw [hrp] at he
  obtain rfl : e = .returned (.int .i64 0) := he
  obtain ⟨x0, x1, x2, x3⟩ := cells4 (HF12.out.box.get 1 rfl)
  go_wp2_with fail
  refine (packetCheck_walk q _).mono ?_
  clear x0 x1 x2 x3
  rintro e w13 ⟨he, hb⟩
  have HF13 := hide (HF12.out.below hb)
  clear hb HF12
  cases hrq : rightB q
  · rw [hrq] at he
    obtain rfl : e = .returned (.int .i64 1) := he
    go_wp2
    go_ret
    exact ⟨ret_bool (by simp), HF13.out.box.bl⟩
  rw [hrq] at he
  obtain rfl : e = .returned (.int .i64 0) := he
  go_wp2_with fail
  -- REGION 10
  have HH := hide (fun (w' : World) (h : MemAt w' g m' f o b (MS.empty) 0) => (hand_walk g m' f o b (MS.empty) 0 1 1 (flipP p) 0 w' h (by rw [HN.out.1.1, HN.out.1.2]; exact fire_net R HN.out.2) (by unfold i64ok; omega) (by unfold i64ok; omega) (flip_ok hp) (by unfold i64ok; omega) (by omega)))
  have HS1 := hide (show handS m'.devs m'.ls (MS.empty) 1 1 (flipP p) 0 = .bad 7 from by rw [HN.out.1.1, HN.out.1.2]; rw [fire_in_s _ _ _ _ (by rw [right_flip]; exact hrp)]; rfl)
  simp only [HS1.out, HandS.val, HandS.bad, MS.learn, Nat.zero_add] at HH
  have HG := hide HF13.out.start
  obtain ⟨⟨p0, p1, p2, p3⟩, n1, n2⟩ := HG.out.at4 0 rfl
  apply cut_region (C := fun N w' => FA W ((N, #[.int .i64 0, .int .i64 0, .int .i64 0, .int .i64 0, .int .i64 0, .int .i64 0]) :: [(W.heap.size, #[.int .i64 p.src, .int .i64 p.dst, .int .i64 p.sport, .int .i64 p.dport]), (W.heap.size + 1, #[.int .i64 q.src, .int .i64 q.dst, .int .i64 q.sport, .int .i64 q.dport])]) g m' f o b MS.empty 1 w')
  · intro HK
    go_region_held3 (fun w' => w'.cell? ⟨W.heap.size, 0, none⟩ = some (.int .i64 p.src) ∧ w'.cell? ⟨W.heap.size, 1, none⟩ = some (.int .i64 p.dst) ∧ w'.cell? ⟨W.heap.size, 2, none⟩ = some (.int .i64 p.sport) ∧ w'.cell? ⟨W.heap.size, 3, none⟩ = some (.int .i64 p.dport)) (go_keep) (first | (go_at_call 48; refine (placeOf_walk 1 1 _).mono ?_; rintro e wp ⟨rfl, hb⟩; (first | have HG := hide (HG.out.d.below hb) | have HG := hide ((HG.out.al _ _).d.below hb) | have HG := hide (HG.out.below hb) | have HG := hide ((HG.out.al _ _).below hb)); obtain ⟨⟨p0, p1, p2, p3⟩, n1, n2⟩ := HG.out.at4 0 rfl; (try obtain ⟨⟨z0, z1, z2, z3, z4, z5⟩, f0, f1, f2, f3, f4, f5⟩ := cells6 (HG.out.z _ List.mem_cons_self).1)) | (go_at_call 49; refine (flip_walk p _).mono ?_; rintro e wp ⟨rfl, hb⟩; (first | have HG := hide (HG.out.d.below hb) | have HG := hide ((HG.out.al _ _).d.below hb) | have HG := hide (HG.out.below hb) | have HG := hide ((HG.out.al _ _).below hb)); obtain ⟨⟨p0, p1, p2, p3⟩, n1, n2⟩ := HG.out.at4 0 rfl; (try obtain ⟨⟨z0, z1, z2, z3, z4, z5⟩, f0, f1, f2, f3, f4, f5⟩ := cells6 (HG.out.z _ List.mem_cons_self).1)) | (go_at_call 47; refine (HH.out _ ?_).mono ?_; (first | exact HG.out.d.mem | exact (HG.out.al _ _).d.mem | exact HG.out.mem | exact (HG.out.al _ _).mem); rintro e wp ⟨rfl, hm, hn⟩; (first | have HG := hide (HG.out.d.step hm hn) | have HG := hide ((HG.out.al _ _).d.step hm hn) | have HG := hide (HG.out.step hm hn) | have HG := hide ((HG.out.al _ _).step hm hn)); obtain ⟨⟨p0, p1, p2, p3⟩, n1, n2⟩ := HG.out.at4 0 rfl; (try obtain ⟨⟨z0, z1, z2, z3, z4, z5⟩, f0, f1, f2, f3, f4, f5⟩ := cells6 (HG.out.z _ List.mem_cons_self).1)))
    all_goals (first | (obtain ⟨N', w', e1, e2, q⟩ := (HG.out.al #[.int .i64 0, .int .i64 0, .int .i64 0, .int .i64 0, .int .i64 0, .int .i64 0] 91).leaf; rw [e2, e1]; exact HK.out _ _ q) | (obtain ⟨N', w', e1, e2, q⟩ := (((((((HG.out.set 0 (.int .i64 0)).set 1 (.int .i64 0)).set 2 (.int .i64 0)).set 3 (.int .i64 0)).set 4 (.int .i64 0)).set 5 (.int .i64 0))).leaf; rw [e2, e1]; exact HK.out _ _ q))
  clear HG HF13
  intro N w14 hFN
  have HFa := hide hFN
  clear hFN
  have HF14 := hide HFa.out.less
  clear HFa
  try clear HH HS1 p0 p1 p2 p3 n1 n2
  go_wp2_with fail
  cases hlb : letsB R p
  · have HH := hide (fun (w' : World) (h : MemAt w' g m' f o b (MS.empty) 1) => (hand_walk g m' f o b (MS.empty) 1 1 0 (p) 0 w' h (by rw [HN.out.1.1, HN.out.1.2]; exact fire_net R HN.out.2) (by unfold i64ok; omega) (by unfold i64ok; omega) hp (by unfold i64ok; omega) (by omega)))
    have HS1 := hide (show handS m'.devs m'.ls (MS.empty) 1 0 (p) 0 = .bad 7 from by rw [HN.out.1.1, HN.out.1.2]; rw [fire_out_s _ _ _ _ hrp, hlb]; rfl)
    simp only [HS1.out, HandS.val, HandS.bad, MS.learn, Nat.zero_add] at HH
    have HG := hide HF14.out.start
    obtain ⟨⟨p0, p1, p2, p3⟩, n1, n2⟩ := HG.out.at4 0 rfl
    apply cut_region (C := fun N w' => FA W ((N, #[.int .i64 0, .int .i64 0, .int .i64 0, .int .i64 0, .int .i64 0, .int .i64 0]) :: [(W.heap.size, #[.int .i64 p.src, .int .i64 p.dst, .int .i64 p.sport, .int .i64 p.dport]), (W.heap.size + 1, #[.int .i64 q.src, .int .i64 q.dst, .int .i64 q.sport, .int .i64 q.dport])]) g m' f o b MS.empty 2 w')
    · intro HK
      go_region_held3 (fun w' => w'.cell? ⟨W.heap.size, 0, none⟩ = some (.int .i64 p.src) ∧ w'.cell? ⟨W.heap.size, 1, none⟩ = some (.int .i64 p.dst) ∧ w'.cell? ⟨W.heap.size, 2, none⟩ = some (.int .i64 p.sport) ∧ w'.cell? ⟨W.heap.size, 3, none⟩ = some (.int .i64 p.dport)) (go_keep) (first | (go_at_call 48; refine (placeOf_walk 1 0 _).mono ?_; rintro e wp ⟨rfl, hb⟩; (first | have HG := hide (HG.out.d.below hb) | have HG := hide ((HG.out.al _ _).d.below hb) | have HG := hide (HG.out.below hb) | have HG := hide ((HG.out.al _ _).below hb)); obtain ⟨⟨p0, p1, p2, p3⟩, n1, n2⟩ := HG.out.at4 0 rfl; (try obtain ⟨⟨z0, z1, z2, z3, z4, z5⟩, f0, f1, f2, f3, f4, f5⟩ := cells6 (HG.out.z _ List.mem_cons_self).1)) | (go_at_call 47; refine (HH.out _ ?_).mono ?_; (first | exact HG.out.d.mem | exact (HG.out.al _ _).d.mem | exact HG.out.mem | exact (HG.out.al _ _).mem); rintro e wp ⟨rfl, hm, hn⟩; (first | have HG := hide (HG.out.d.step hm hn) | have HG := hide ((HG.out.al _ _).d.step hm hn) | have HG := hide (HG.out.step hm hn) | have HG := hide ((HG.out.al _ _).step hm hn)); obtain ⟨⟨p0, p1, p2, p3⟩, n1, n2⟩ := HG.out.at4 0 rfl; (try obtain ⟨⟨z0, z1, z2, z3, z4, z5⟩, f0, f1, f2, f3, f4, f5⟩ := cells6 (HG.out.z _ List.mem_cons_self).1)))
      all_goals (first | (obtain ⟨N', w', e1, e2, q⟩ := (HG.out.al #[.int .i64 0, .int .i64 0, .int .i64 0, .int .i64 0, .int .i64 0, .int .i64 0] 91).leaf; rw [e2, e1]; exact HK.out _ _ q) | (obtain ⟨N', w', e1, e2, q⟩ := (((((((HG.out.set 0 (.int .i64 0)).set 1 (.int .i64 0)).set 2 (.int .i64 0)).set 3 (.int .i64 0)).set 4 (.int .i64 0)).set 5 (.int .i64 0))).leaf; rw [e2, e1]; exact HK.out _ _ q))
    clear HG HF14
    intro N w15 hFN
    have HFa := hide hFN
    clear hFN
    have HF15 := hide HFa.out.less
    clear HFa
    try clear HH HS1 p0 p1 p2 p3 n1 n2
    skip
    obtain ⟨p0, p1, p2, p3⟩ := cells4 (HF15.out.box.get 0 rfl)
    go_wp2_with fail
    refine (lets_walk R A n c p _ n3 hp (HR.out _ HF15.out.box.bl)).mono ?_
    clear p0 p1 p2 p3
    rintro e w16 ⟨he, hb⟩
    rw [hlb] at he
    subst he
    have HF16 := hide (HF15.out.below hb)
    clear hb HF15
    go_wp2_with fail
    have HH := hide (fun (w' : World) (h : MemAt w' g m' f o b (MS.empty) 2) => (hand_walk g m' f o b (MS.empty) 2 1 1 (q) 0 w' h (by rw [HN.out.1.1, HN.out.1.2]; exact fire_net R HN.out.2) (by unfold i64ok; omega) (by unfold i64ok; omega) hq (by unfold i64ok; omega) (by omega)))
    have HS1 := hide (show handS m'.devs m'.ls (MS.empty) 1 1 (q) 0 = .bad 7 from by rw [HN.out.1.1, HN.out.1.2]; rw [fire_in_s _ _ _ _ hrq]; rfl)
    simp only [HS1.out, HandS.val, HandS.bad, MS.learn, Nat.zero_add] at HH
    have HG := hide HF16.out.start
    obtain ⟨⟨p0, p1, p2, p3⟩, n1, n2⟩ := HG.out.at4 1 rfl
    apply cut_region (C := fun N w' => FA W ((N, #[.int .i64 0, .int .i64 0, .int .i64 0, .int .i64 0, .int .i64 0, .int .i64 0]) :: [(W.heap.size, #[.int .i64 p.src, .int .i64 p.dst, .int .i64 p.sport, .int .i64 p.dport]), (W.heap.size + 1, #[.int .i64 q.src, .int .i64 q.dst, .int .i64 q.sport, .int .i64 q.dport])]) g m' f o b MS.empty 3 w')
    · intro HK
      go_region_held3 (fun w' => w'.cell? ⟨(W.heap.size + 1), 0, none⟩ = some (.int .i64 q.src) ∧ w'.cell? ⟨(W.heap.size + 1), 1, none⟩ = some (.int .i64 q.dst) ∧ w'.cell? ⟨(W.heap.size + 1), 2, none⟩ = some (.int .i64 q.sport) ∧ w'.cell? ⟨(W.heap.size + 1), 3, none⟩ = some (.int .i64 q.dport)) (go_keep) (first | (go_at_call 48; refine (placeOf_walk 1 1 _).mono ?_; rintro e wp ⟨rfl, hb⟩; (first | have HG := hide (HG.out.d.below hb) | have HG := hide ((HG.out.al _ _).d.below hb) | have HG := hide (HG.out.below hb) | have HG := hide ((HG.out.al _ _).below hb)); obtain ⟨⟨p0, p1, p2, p3⟩, n1, n2⟩ := HG.out.at4 1 rfl; (try obtain ⟨⟨z0, z1, z2, z3, z4, z5⟩, f0, f1, f2, f3, f4, f5⟩ := cells6 (HG.out.z _ List.mem_cons_self).1)) | (go_at_call 47; refine (HH.out _ ?_).mono ?_; (first | exact HG.out.d.mem | exact (HG.out.al _ _).d.mem | exact HG.out.mem | exact (HG.out.al _ _).mem); rintro e wp ⟨rfl, hm, hn⟩; (first | have HG := hide (HG.out.d.step hm hn) | have HG := hide ((HG.out.al _ _).d.step hm hn) | have HG := hide (HG.out.step hm hn) | have HG := hide ((HG.out.al _ _).step hm hn)); obtain ⟨⟨p0, p1, p2, p3⟩, n1, n2⟩ := HG.out.at4 1 rfl; (try obtain ⟨⟨z0, z1, z2, z3, z4, z5⟩, f0, f1, f2, f3, f4, f5⟩ := cells6 (HG.out.z _ List.mem_cons_self).1)))
      all_goals (first | (obtain ⟨N', w', e1, e2, q⟩ := (HG.out.al #[.int .i64 0, .int .i64 0, .int .i64 0, .int .i64 0, .int .i64 0, .int .i64 0] 91).leaf; rw [e2, e1]; exact HK.out _ _ q) | (obtain ⟨N', w', e1, e2, q⟩ := (((((((HG.out.set 0 (.int .i64 0)).set 1 (.int .i64 0)).set 2 (.int .i64 0)).set 3 (.int .i64 0)).set 4 (.int .i64 0)).set 5 (.int .i64 0))).leaf; rw [e2, e1]; exact HK.out _ _ q))
    clear HG HF16
    intro N w17 hFN
    have HFa := hide hFN
    clear hFN
    have HF17 := hide HFa.out.less
    clear HFa
    try clear HH HS1 p0 p1 p2 p3 n1 n2
    go_wp2_with fail
    refine wp_region_abs (by kernel_rfl) (by kernel_rfl) ?_
    intro T hT gt hg1 hgi
    have HGT := hide hg1
    have HGI := hide hgi
    clear hg1 hgi
    repeat (go_big_quiet_step (fail))
    refine wpQuiet_nil ?_
    intro _ hw'
    obtain ⟨t, rfl⟩ := hw'
    have HF18 := hide (HF17.out.below (HGT.out t))
    generalize gt t = w18 at *
    clear HGT HGI HF17
    have hMp : MS.empty.F (1, p) = false := rfl
    have HFO := hide (HF18.out.forget (i := 1) (q := 0) (p := p) hdn (by unfold i64ok; omega) hp (by unfold i64ok; omega))
    rw [HN.out.1.1, fire_forget] at HFO
    have hif : (if (MS.empty).F (1, p) = true then (0 : Int) else 7) = 7 := if_neg (by rw [hMp]; simp)
    simp only [hif] at HFO
    obtain ⟨p0, p1, p2, p3⟩ := cells4 (HF18.out.box.get 0 rfl)
    go_wp2_with fail
    refine HFO.out.mono ?_
    clear p0 p1 p2 p3 HFO hif
    rintro e w19 ⟨rfl, hFN⟩
    have hM2 : ((MS.empty).drop (.flow (1, p))).F (1, p) = false := if_pos rfl
    generalize (MS.empty).drop (.flow (1, p)) = M2 at *
    have HF19 := hide hFN
    clear hFN HF18
    go_wp2_with fail
    have HH := hide (fun (w' : World) (h : MemAt w' g m' f o b (M2) 3) => (hand_walk g m' f o b (M2) 3 1 1 (flipP p) 0 w' h (by rw [HN.out.1.1, HN.out.1.2]; exact fire_net R HN.out.2) (by unfold i64ok; omega) (by unfold i64ok; omega) (flip_ok hp) (by unfold i64ok; omega) (by omega)))
    have HS1 := hide (show handS m'.devs m'.ls (M2) 1 1 (flipP p) 0 = .bad 7 from by rw [HN.out.1.1, HN.out.1.2]; rw [fire_in_s _ _ _ _ (by rw [right_flip]; exact hrp), flip_flip, hM2]; rfl)
    simp only [HS1.out, HandS.val, HandS.bad, MS.learn, Nat.zero_add] at HH
    have HG := hide HF19.out.start
    obtain ⟨⟨p0, p1, p2, p3⟩, n1, n2⟩ := HG.out.at4 0 rfl
    go_region_held3 (fun w' => w'.cell? ⟨W.heap.size, 0, none⟩ = some (.int .i64 p.src) ∧ w'.cell? ⟨W.heap.size, 1, none⟩ = some (.int .i64 p.dst) ∧ w'.cell? ⟨W.heap.size, 2, none⟩ = some (.int .i64 p.sport) ∧ w'.cell? ⟨W.heap.size, 3, none⟩ = some (.int .i64 p.dport)) (go_keep) (first | (go_at_call 48; refine (placeOf_walk 1 1 _).mono ?_; rintro e wp ⟨rfl, hb⟩; (first | have HG := hide (HG.out.d.below hb) | have HG := hide ((HG.out.al _ _).d.below hb) | have HG := hide (HG.out.below hb) | have HG := hide ((HG.out.al _ _).below hb)); obtain ⟨⟨p0, p1, p2, p3⟩, n1, n2⟩ := HG.out.at4 0 rfl; (try obtain ⟨⟨z0, z1, z2, z3, z4, z5⟩, f0, f1, f2, f3, f4, f5⟩ := cells6 (HG.out.z _ List.mem_cons_self).1)) | (go_at_call 49; refine (flip_walk p _).mono ?_; rintro e wp ⟨rfl, hb⟩; (first | have HG := hide (HG.out.d.below hb) | have HG := hide ((HG.out.al _ _).d.below hb) | have HG := hide (HG.out.below hb) | have HG := hide ((HG.out.al _ _).below hb)); obtain ⟨⟨p0, p1, p2, p3⟩, n1, n2⟩ := HG.out.at4 0 rfl; (try obtain ⟨⟨z0, z1, z2, z3, z4, z5⟩, f0, f1, f2, f3, f4, f5⟩ := cells6 (HG.out.z _ List.mem_cons_self).1)) | (go_at_call 47; refine (HH.out _ ?_).mono ?_; (first | exact HG.out.d.mem | exact (HG.out.al _ _).d.mem | exact HG.out.mem | exact (HG.out.al _ _).mem); rintro e wp ⟨rfl, hm, hn⟩; (first | have HG := hide (HG.out.d.step hm hn) | have HG := hide ((HG.out.al _ _).d.step hm hn) | have HG := hide (HG.out.step hm hn) | have HG := hide ((HG.out.al _ _).step hm hn)); obtain ⟨⟨p0, p1, p2, p3⟩, n1, n2⟩ := HG.out.at4 0 rfl; (try obtain ⟨⟨z0, z1, z2, z3, z4, z5⟩, f0, f1, f2, f3, f4, f5⟩ := cells6 (HG.out.z _ List.mem_cons_self).1)))
    have HFz := hide HG.out.fa
    clear HG HH HS1 p0 p1 p2 p3 n1 n2
    go_wp2
    go_ret
    exact ⟨ret_bool (by simp), HFz.out.box.bl⟩
  · have HH := hide (fun (w' : World) (h : MemAt w' g m' f o b (MS.empty) 1) => (hand_walk g m' f o b (MS.empty) 1 1 0 (p) 0 w' h (by rw [HN.out.1.1, HN.out.1.2]; exact fire_net R HN.out.2) (by unfold i64ok; omega) (by unfold i64ok; omega) hp (by unfold i64ok; omega) (by omega)))
    have HS1 := hide (show handS m'.devs m'.ls (MS.empty) 1 0 (p) 0 = ⟨0, (2, 0), p, .flow (1, p)⟩ from by rw [HN.out.1.1, HN.out.1.2]; rw [fire_out_s _ _ _ _ hrp, hlb]; rfl)
    simp only [HS1.out, HandS.val, Nat.zero_add] at HH
    have HG := hide HF14.out.start
    obtain ⟨⟨p0, p1, p2, p3⟩, n1, n2⟩ := HG.out.at4 0 rfl
    apply cut_region (C := fun N w' => FA W ((N, #[.int .i64 2, .int .i64 0, .int .i64 p.src, .int .i64 p.dst, .int .i64 p.sport, .int .i64 p.dport]) :: [(W.heap.size, #[.int .i64 p.src, .int .i64 p.dst, .int .i64 p.sport, .int .i64 p.dport]), (W.heap.size + 1, #[.int .i64 q.src, .int .i64 q.dst, .int .i64 q.sport, .int .i64 q.dport])]) g m' f o b (MS.empty.learn (.flow (1, p))) 2 w')
    · intro HK
      go_region_held3 (fun w' => w'.cell? ⟨W.heap.size, 0, none⟩ = some (.int .i64 p.src) ∧ w'.cell? ⟨W.heap.size, 1, none⟩ = some (.int .i64 p.dst) ∧ w'.cell? ⟨W.heap.size, 2, none⟩ = some (.int .i64 p.sport) ∧ w'.cell? ⟨W.heap.size, 3, none⟩ = some (.int .i64 p.dport)) (go_keep) (first | (go_at_call 48; refine (placeOf_walk 1 0 _).mono ?_; rintro e wp ⟨rfl, hb⟩; (first | have HG := hide (HG.out.d.below hb) | have HG := hide ((HG.out.al _ _).d.below hb) | have HG := hide (HG.out.below hb) | have HG := hide ((HG.out.al _ _).below hb)); obtain ⟨⟨p0, p1, p2, p3⟩, n1, n2⟩ := HG.out.at4 0 rfl; (try obtain ⟨⟨z0, z1, z2, z3, z4, z5⟩, f0, f1, f2, f3, f4, f5⟩ := cells6 (HG.out.z _ List.mem_cons_self).1)) | (go_at_call 47; refine (HH.out _ ?_).mono ?_; (first | exact HG.out.d.mem | exact (HG.out.al _ _).d.mem | exact HG.out.mem | exact (HG.out.al _ _).mem); rintro e wp ⟨rfl, hm, hn⟩; (first | have HG := hide (HG.out.d.step hm hn) | have HG := hide ((HG.out.al _ _).d.step hm hn) | have HG := hide (HG.out.step hm hn) | have HG := hide ((HG.out.al _ _).step hm hn)); obtain ⟨⟨p0, p1, p2, p3⟩, n1, n2⟩ := HG.out.at4 0 rfl; (try obtain ⟨⟨z0, z1, z2, z3, z4, z5⟩, f0, f1, f2, f3, f4, f5⟩ := cells6 (HG.out.z _ List.mem_cons_self).1)))
      all_goals (first | (obtain ⟨N', w', e1, e2, q⟩ := (HG.out.al #[.int .i64 2, .int .i64 0, .int .i64 p.src, .int .i64 p.dst, .int .i64 p.sport, .int .i64 p.dport] 91).leaf; rw [e2, e1]; exact HK.out _ _ q) | (obtain ⟨N', w', e1, e2, q⟩ := (((((((HG.out.set 0 (.int .i64 2)).set 1 (.int .i64 0)).set 2 (.int .i64 p.src)).set 3 (.int .i64 p.dst)).set 4 (.int .i64 p.sport)).set 5 (.int .i64 p.dport))).leaf; rw [e2, e1]; exact HK.out _ _ q))
    clear HG HF14
    intro N w15 hFN
    have HF15 := hide hFN
    clear hFN
    try clear HH HS1 p0 p1 p2 p3 n1 n2
    have hM1 : ∀ x, (MS.empty.learn (.flow (1, p))).F (1, x) = decide (x = p) := fun x => by simp only [MS.learn, MS.empty]; by_cases e : x = p <;> simp [e]
    generalize MS.empty.learn (.flow (1, p)) = M1 at *
    obtain ⟨p0, p1, p2, p3⟩ := cells4 (HF15.out.box.get 1 rfl)
    go_wp2_with fail
    refine (lets_walk R A n c p _ n3 hp (HR.out _ HF15.out.box.bl)).mono ?_
    clear p0 p1 p2 p3
    rintro e w16 ⟨he, hb⟩
    rw [hlb] at he
    subst he
    have HF16 := hide (HF15.out.below hb)
    clear hb HF15
    obtain ⟨p0, p1, p2, p3⟩ := cells4 (HF16.out.box.get 1 rfl)
    obtain ⟨⟨z0, z1, z2, z3, z4, z5⟩, _⟩ := cells6 (HF16.out.box.get 0 rfl)
    go_wp2_with fail
    have HF17 := hide HF16.out.less
    clear p0 p1 p2 p3 z0 z1 z2 z3 z4 z5 HF16
    by_cases hqf : flipP q = p
    · have HH := hide (fun (w' : World) (h : MemAt w' g m' f o b (M1) 2) => (hand_walk g m' f o b (M1) 2 1 1 (q) 0 w' h (by rw [HN.out.1.1, HN.out.1.2]; exact fire_net R HN.out.2) (by unfold i64ok; omega) (by unfold i64ok; omega) hq (by unfold i64ok; omega) (by omega)))
      have HS1 := hide (show handS m'.devs m'.ls (M1) 1 1 (q) 0 = ⟨0, (0, 0), q, .nothing⟩ from by rw [HN.out.1.1, HN.out.1.2]; rw [fire_in_s _ _ _ _ hrq, hM1]; simp [hqf])
      simp only [HS1.out, HandS.val, HandS.bad, MS.learn, Nat.zero_add] at HH
      have HG := hide HF17.out.start
      obtain ⟨⟨p0, p1, p2, p3⟩, n1, n2⟩ := HG.out.at4 1 rfl
      apply cut_region (C := fun N w' => FA W ((N, #[.int .i64 0, .int .i64 0, .int .i64 q.src, .int .i64 q.dst, .int .i64 q.sport, .int .i64 q.dport]) :: [(W.heap.size, #[.int .i64 p.src, .int .i64 p.dst, .int .i64 p.sport, .int .i64 p.dport]), (W.heap.size + 1, #[.int .i64 q.src, .int .i64 q.dst, .int .i64 q.sport, .int .i64 q.dport])]) g m' f o b M1 3 w')
      · intro HK
        go_region_held3 (fun w' => w'.cell? ⟨(W.heap.size + 1), 0, none⟩ = some (.int .i64 q.src) ∧ w'.cell? ⟨(W.heap.size + 1), 1, none⟩ = some (.int .i64 q.dst) ∧ w'.cell? ⟨(W.heap.size + 1), 2, none⟩ = some (.int .i64 q.sport) ∧ w'.cell? ⟨(W.heap.size + 1), 3, none⟩ = some (.int .i64 q.dport)) (go_keep) (first | (go_at_call 48; refine (placeOf_walk 1 1 _).mono ?_; rintro e wp ⟨rfl, hb⟩; (first | have HG := hide (HG.out.d.below hb) | have HG := hide ((HG.out.al _ _).d.below hb) | have HG := hide (HG.out.below hb) | have HG := hide ((HG.out.al _ _).below hb)); obtain ⟨⟨p0, p1, p2, p3⟩, n1, n2⟩ := HG.out.at4 1 rfl; (try obtain ⟨⟨z0, z1, z2, z3, z4, z5⟩, f0, f1, f2, f3, f4, f5⟩ := cells6 (HG.out.z _ List.mem_cons_self).1)) | (go_at_call 47; refine (HH.out _ ?_).mono ?_; (first | exact HG.out.d.mem | exact (HG.out.al _ _).d.mem | exact HG.out.mem | exact (HG.out.al _ _).mem); rintro e wp ⟨rfl, hm, hn⟩; (first | have HG := hide (HG.out.d.step hm hn) | have HG := hide ((HG.out.al _ _).d.step hm hn) | have HG := hide (HG.out.step hm hn) | have HG := hide ((HG.out.al _ _).step hm hn)); obtain ⟨⟨p0, p1, p2, p3⟩, n1, n2⟩ := HG.out.at4 1 rfl; (try obtain ⟨⟨z0, z1, z2, z3, z4, z5⟩, f0, f1, f2, f3, f4, f5⟩ := cells6 (HG.out.z _ List.mem_cons_self).1)))
        all_goals (first | (obtain ⟨N', w', e1, e2, q⟩ := (HG.out.al #[.int .i64 0, .int .i64 0, .int .i64 q.src, .int .i64 q.dst, .int .i64 q.sport, .int .i64 q.dport] 91).leaf; rw [e2, e1]; exact HK.out _ _ q) | (obtain ⟨N', w', e1, e2, q⟩ := (((((((HG.out.set 0 (.int .i64 0)).set 1 (.int .i64 0)).set 2 (.int .i64 q.src)).set 3 (.int .i64 q.dst)).set 4 (.int .i64 q.sport)).set 5 (.int .i64 q.dport))).leaf; rw [e2, e1]; exact HK.out _ _ q))
      clear HG HF17
      intro N w17 hFN
      have HFa := hide hFN
      clear hFN
      have HF18 := hide HFa.out.less
      clear HFa
      try clear HH HS1 p0 p1 p2 p3 n1 n2
      go_wp2_with fail
      have HM1 := hide hM1
      have HQF := hide hqf
      clear hM1 hqf
      apply cut_still (C := fun w' => FA W [(W.heap.size, #[.int .i64 p.src, .int .i64 p.dst, .int .i64 p.sport, .int .i64 p.dport]), (W.heap.size + 1, #[.int .i64 q.src, .int .i64 q.dst, .int .i64 q.sport, .int .i64 q.dport])] g m' f o b M1 3 w')
      · intro HK
        refine wp_region_abs (by kernel_rfl) (by kernel_rfl) ?_
        intro T hT gt hg1 hgi
        have HGT := hide hg1
        have HGI := hide hgi
        clear hg1 hgi
        have k0 : ∀ t, (gt t).cell? ⟨W.heap.size, 0, none⟩ = some (.int .i64 p.src) := fun t => ((HF18.out.below (HGT.out t)).box.get 0 rfl).1 0 _ rfl
        have k1 : ∀ t, (gt t).cell? ⟨W.heap.size, 1, none⟩ = some (.int .i64 p.dst) := fun t => ((HF18.out.below (HGT.out t)).box.get 0 rfl).1 1 _ rfl
        have k2 : ∀ t, (gt t).cell? ⟨W.heap.size, 2, none⟩ = some (.int .i64 p.sport) := fun t => ((HF18.out.below (HGT.out t)).box.get 0 rfl).1 2 _ rfl
        have k3 : ∀ t, (gt t).cell? ⟨W.heap.size, 3, none⟩ = some (.int .i64 p.dport) := fun t => ((HF18.out.below (HGT.out t)).box.get 0 rfl).1 3 _ rfl
        have k4 : ∀ t, (gt t).cell? ⟨W.heap.size + 1, 0, none⟩ = some (.int .i64 q.src) := fun t => ((HF18.out.below (HGT.out t)).box.get 1 rfl).1 0 _ rfl
        have k5 : ∀ t, (gt t).cell? ⟨W.heap.size + 1, 1, none⟩ = some (.int .i64 q.dst) := fun t => ((HF18.out.below (HGT.out t)).box.get 1 rfl).1 1 _ rfl
        have k6 : ∀ t, (gt t).cell? ⟨W.heap.size + 1, 2, none⟩ = some (.int .i64 q.sport) := fun t => ((HF18.out.below (HGT.out t)).box.get 1 rfl).1 2 _ rfl
        have k7 : ∀ t, (gt t).cell? ⟨W.heap.size + 1, 3, none⟩ = some (.int .i64 q.dport) := fun t => ((HF18.out.below (HGT.out t)).box.get 1 rfl).1 3 _ rfl
        obtain ⟨a1, a2, a3, a4⟩ : q.src = p.dst ∧ q.dst = p.src ∧ q.sport = p.dport ∧ q.dport = p.sport := by rw [← HQF.out]; exact ⟨rfl, rfl, rfl, rfl⟩
        have d1 : (q.src == p.dst) = true := by simpa using a1
        have d2 : (q.dst == p.src) = true := by simpa using a2
        have d3 : (q.sport == p.dport) = true := by simpa using a3
        have d4 : (q.dport == p.sport) = true := by simpa using a4
        clear a1 a2 a3 a4
        repeat (go_big_quiet_step ((go_at_call 49; exact inAbs HGT.out HGI.out (flip_walk p _))))
        refine wpQuiet_nil ?_
        intro _ hw'
        obtain ⟨t, rfl⟩ := hw'
        exact HK.out _ (HF18.out.below (HGT.out t))
      intro w18 hFN
      have HF19 := hide hFN
      clear hFN HF18
      try clear d1
      try clear d2
      try clear d3
      try clear d4
      have hMp : M1.F (1, p) = true := by rw [HM1.out]; simp
      clear HM1 HQF
      have HFO := hide (HF19.out.forget (i := 1) (q := 0) (p := p) hdn (by unfold i64ok; omega) hp (by unfold i64ok; omega))
      rw [HN.out.1.1, fire_forget] at HFO
      have hif : (if (M1).F (1, p) = true then (0 : Int) else 7) = 0 := if_pos hMp
      simp only [hif] at HFO
      obtain ⟨p0, p1, p2, p3⟩ := cells4 (HF19.out.box.get 0 rfl)
      go_wp2_with fail
      refine HFO.out.mono ?_
      clear p0 p1 p2 p3 HFO hif
      rintro e w19 ⟨rfl, hFN⟩
      have hM2 : ((M1).drop (.flow (1, p))).F (1, p) = false := if_pos rfl
      generalize (M1).drop (.flow (1, p)) = M2 at *
      have HF20 := hide hFN
      clear hFN HF19
      go_wp2_with fail
      have HH := hide (fun (w' : World) (h : MemAt w' g m' f o b (M2) 3) => (hand_walk g m' f o b (M2) 3 1 1 (flipP p) 0 w' h (by rw [HN.out.1.1, HN.out.1.2]; exact fire_net R HN.out.2) (by unfold i64ok; omega) (by unfold i64ok; omega) (flip_ok hp) (by unfold i64ok; omega) (by omega)))
      have HS1 := hide (show handS m'.devs m'.ls (M2) 1 1 (flipP p) 0 = .bad 7 from by rw [HN.out.1.1, HN.out.1.2]; rw [fire_in_s _ _ _ _ (by rw [right_flip]; exact hrp), flip_flip, hM2]; rfl)
      simp only [HS1.out, HandS.val, HandS.bad, MS.learn, Nat.zero_add] at HH
      have HG := hide HF20.out.start
      obtain ⟨⟨p0, p1, p2, p3⟩, n1, n2⟩ := HG.out.at4 0 rfl
      go_region_held3 (fun w' => w'.cell? ⟨W.heap.size, 0, none⟩ = some (.int .i64 p.src) ∧ w'.cell? ⟨W.heap.size, 1, none⟩ = some (.int .i64 p.dst) ∧ w'.cell? ⟨W.heap.size, 2, none⟩ = some (.int .i64 p.sport) ∧ w'.cell? ⟨W.heap.size, 3, none⟩ = some (.int .i64 p.dport)) (go_keep) (first | (go_at_call 48; refine (placeOf_walk 1 1 _).mono ?_; rintro e wp ⟨rfl, hb⟩; (first | have HG := hide (HG.out.d.below hb) | have HG := hide ((HG.out.al _ _).d.below hb) | have HG := hide (HG.out.below hb) | have HG := hide ((HG.out.al _ _).below hb)); obtain ⟨⟨p0, p1, p2, p3⟩, n1, n2⟩ := HG.out.at4 0 rfl; (try obtain ⟨⟨z0, z1, z2, z3, z4, z5⟩, f0, f1, f2, f3, f4, f5⟩ := cells6 (HG.out.z _ List.mem_cons_self).1)) | (go_at_call 49; refine (flip_walk p _).mono ?_; rintro e wp ⟨rfl, hb⟩; (first | have HG := hide (HG.out.d.below hb) | have HG := hide ((HG.out.al _ _).d.below hb) | have HG := hide (HG.out.below hb) | have HG := hide ((HG.out.al _ _).below hb)); obtain ⟨⟨p0, p1, p2, p3⟩, n1, n2⟩ := HG.out.at4 0 rfl; (try obtain ⟨⟨z0, z1, z2, z3, z4, z5⟩, f0, f1, f2, f3, f4, f5⟩ := cells6 (HG.out.z _ List.mem_cons_self).1)) | (go_at_call 47; refine (HH.out _ ?_).mono ?_; (first | exact HG.out.d.mem | exact (HG.out.al _ _).d.mem | exact HG.out.mem | exact (HG.out.al _ _).mem); rintro e wp ⟨rfl, hm, hn⟩; (first | have HG := hide (HG.out.d.step hm hn) | have HG := hide ((HG.out.al _ _).d.step hm hn) | have HG := hide (HG.out.step hm hn) | have HG := hide ((HG.out.al _ _).step hm hn)); obtain ⟨⟨p0, p1, p2, p3⟩, n1, n2⟩ := HG.out.at4 0 rfl; (try obtain ⟨⟨z0, z1, z2, z3, z4, z5⟩, f0, f1, f2, f3, f4, f5⟩ := cells6 (HG.out.z _ List.mem_cons_self).1)))
      have HFz := hide HG.out.fa
      clear HG HH HS1 p0 p1 p2 p3 n1 n2
      go_wp2
      go_ret
      exact ⟨ret_bool (by simp), HFz.out.box.bl⟩
    · have HH := hide (fun (w' : World) (h : MemAt w' g m' f o b (M1) 2) => (hand_walk g m' f o b (M1) 2 1 1 (q) 0 w' h (by rw [HN.out.1.1, HN.out.1.2]; exact fire_net R HN.out.2) (by unfold i64ok; omega) (by unfold i64ok; omega) hq (by unfold i64ok; omega) (by omega)))
      have HS1 := hide (show handS m'.devs m'.ls (M1) 1 1 (q) 0 = .bad 7 from by rw [HN.out.1.1, HN.out.1.2]; rw [fire_in_s _ _ _ _ hrq, hM1]; simp [hqf])
      simp only [HS1.out, HandS.val, HandS.bad, MS.learn, Nat.zero_add] at HH
      have HG := hide HF17.out.start
      obtain ⟨⟨p0, p1, p2, p3⟩, n1, n2⟩ := HG.out.at4 1 rfl
      apply cut_region (C := fun N w' => FA W ((N, #[.int .i64 0, .int .i64 0, .int .i64 0, .int .i64 0, .int .i64 0, .int .i64 0]) :: [(W.heap.size, #[.int .i64 p.src, .int .i64 p.dst, .int .i64 p.sport, .int .i64 p.dport]), (W.heap.size + 1, #[.int .i64 q.src, .int .i64 q.dst, .int .i64 q.sport, .int .i64 q.dport])]) g m' f o b M1 3 w')
      · intro HK
        go_region_held3 (fun w' => w'.cell? ⟨(W.heap.size + 1), 0, none⟩ = some (.int .i64 q.src) ∧ w'.cell? ⟨(W.heap.size + 1), 1, none⟩ = some (.int .i64 q.dst) ∧ w'.cell? ⟨(W.heap.size + 1), 2, none⟩ = some (.int .i64 q.sport) ∧ w'.cell? ⟨(W.heap.size + 1), 3, none⟩ = some (.int .i64 q.dport)) (go_keep) (first | (go_at_call 48; refine (placeOf_walk 1 1 _).mono ?_; rintro e wp ⟨rfl, hb⟩; (first | have HG := hide (HG.out.d.below hb) | have HG := hide ((HG.out.al _ _).d.below hb) | have HG := hide (HG.out.below hb) | have HG := hide ((HG.out.al _ _).below hb)); obtain ⟨⟨p0, p1, p2, p3⟩, n1, n2⟩ := HG.out.at4 1 rfl; (try obtain ⟨⟨z0, z1, z2, z3, z4, z5⟩, f0, f1, f2, f3, f4, f5⟩ := cells6 (HG.out.z _ List.mem_cons_self).1)) | (go_at_call 47; refine (HH.out _ ?_).mono ?_; (first | exact HG.out.d.mem | exact (HG.out.al _ _).d.mem | exact HG.out.mem | exact (HG.out.al _ _).mem); rintro e wp ⟨rfl, hm, hn⟩; (first | have HG := hide (HG.out.d.step hm hn) | have HG := hide ((HG.out.al _ _).d.step hm hn) | have HG := hide (HG.out.step hm hn) | have HG := hide ((HG.out.al _ _).step hm hn)); obtain ⟨⟨p0, p1, p2, p3⟩, n1, n2⟩ := HG.out.at4 1 rfl; (try obtain ⟨⟨z0, z1, z2, z3, z4, z5⟩, f0, f1, f2, f3, f4, f5⟩ := cells6 (HG.out.z _ List.mem_cons_self).1)))
        all_goals (first | (obtain ⟨N', w', e1, e2, q⟩ := (HG.out.al #[.int .i64 0, .int .i64 0, .int .i64 0, .int .i64 0, .int .i64 0, .int .i64 0] 91).leaf; rw [e2, e1]; exact HK.out _ _ q) | (obtain ⟨N', w', e1, e2, q⟩ := (((((((HG.out.set 0 (.int .i64 0)).set 1 (.int .i64 0)).set 2 (.int .i64 0)).set 3 (.int .i64 0)).set 4 (.int .i64 0)).set 5 (.int .i64 0))).leaf; rw [e2, e1]; exact HK.out _ _ q))
      clear HG HF17
      intro N w17 hFN
      have HFa := hide hFN
      clear hFN
      have HF18 := hide HFa.out.less
      clear HFa
      try clear HH HS1 p0 p1 p2 p3 n1 n2
      go_wp2_with fail
      have HM1 := hide hM1
      have HQF := hide hqf
      clear hM1 hqf
      have hd : (q.src == p.dst) = false ∨ ((q.src == p.dst) = true ∧ (q.dst == p.src) = false) ∨ ((q.src == p.dst) = true ∧ (q.dst == p.src) = true ∧ (q.sport == p.dport) = false) ∨ ((q.src == p.dst) = true ∧ (q.dst == p.src) = true ∧ (q.sport == p.dport) = true ∧ (q.dport == p.sport) = false) := by
        have hne : ¬ (q.src = p.dst ∧ q.dst = p.src ∧ q.sport = p.dport ∧ q.dport = p.sport) := fun ⟨a1, a2, a3, a4⟩ => HQF.out (by cases p; cases q; simp only at a1 a2 a3 a4; subst a1 a2 a3 a4; rfl)
        simp only [beq_iff_eq, beq_eq_false_iff_ne, ne_eq]
        omega
      rcases hd with d1 | ⟨d1, d2⟩ | ⟨d1, d2, d3⟩ | ⟨d1, d2, d3, d4⟩
      all_goals
        apply cut_still (C := fun w' => FA W [(W.heap.size, #[.int .i64 p.src, .int .i64 p.dst, .int .i64 p.sport, .int .i64 p.dport]), (W.heap.size + 1, #[.int .i64 q.src, .int .i64 q.dst, .int .i64 q.sport, .int .i64 q.dport])] g m' f o b M1 3 w')
        · intro HK
          refine wp_region_abs (by kernel_rfl) (by kernel_rfl) ?_
          intro T hT gt hg1 hgi
          have HGT := hide hg1
          have HGI := hide hgi
          clear hg1 hgi
          have k0 : ∀ t, (gt t).cell? ⟨W.heap.size, 0, none⟩ = some (.int .i64 p.src) := fun t => ((HF18.out.below (HGT.out t)).box.get 0 rfl).1 0 _ rfl
          have k1 : ∀ t, (gt t).cell? ⟨W.heap.size, 1, none⟩ = some (.int .i64 p.dst) := fun t => ((HF18.out.below (HGT.out t)).box.get 0 rfl).1 1 _ rfl
          have k2 : ∀ t, (gt t).cell? ⟨W.heap.size, 2, none⟩ = some (.int .i64 p.sport) := fun t => ((HF18.out.below (HGT.out t)).box.get 0 rfl).1 2 _ rfl
          have k3 : ∀ t, (gt t).cell? ⟨W.heap.size, 3, none⟩ = some (.int .i64 p.dport) := fun t => ((HF18.out.below (HGT.out t)).box.get 0 rfl).1 3 _ rfl
          have k4 : ∀ t, (gt t).cell? ⟨W.heap.size + 1, 0, none⟩ = some (.int .i64 q.src) := fun t => ((HF18.out.below (HGT.out t)).box.get 1 rfl).1 0 _ rfl
          have k5 : ∀ t, (gt t).cell? ⟨W.heap.size + 1, 1, none⟩ = some (.int .i64 q.dst) := fun t => ((HF18.out.below (HGT.out t)).box.get 1 rfl).1 1 _ rfl
          have k6 : ∀ t, (gt t).cell? ⟨W.heap.size + 1, 2, none⟩ = some (.int .i64 q.sport) := fun t => ((HF18.out.below (HGT.out t)).box.get 1 rfl).1 2 _ rfl
          have k7 : ∀ t, (gt t).cell? ⟨W.heap.size + 1, 3, none⟩ = some (.int .i64 q.dport) := fun t => ((HF18.out.below (HGT.out t)).box.get 1 rfl).1 3 _ rfl
          repeat (go_big_quiet_step ((go_at_call 49; exact inAbs HGT.out HGI.out (flip_walk p _))))
          refine wpQuiet_nil ?_
          intro _ hw'
          obtain ⟨t, rfl⟩ := hw'
          exact HK.out _ (HF18.out.below (HGT.out t))
        intro w18 hFN
        have HF19 := hide hFN
        clear hFN HF18
        try clear d1
        try clear d2
        try clear d3
        try clear d4
        have hMp : M1.F (1, p) = true := by rw [HM1.out]; simp
        clear HM1 HQF
        have HFO := hide (HF19.out.forget (i := 1) (q := 0) (p := p) hdn (by unfold i64ok; omega) hp (by unfold i64ok; omega))
        rw [HN.out.1.1, fire_forget] at HFO
        have hif : (if (M1).F (1, p) = true then (0 : Int) else 7) = 0 := if_pos hMp
        simp only [hif] at HFO
        obtain ⟨p0, p1, p2, p3⟩ := cells4 (HF19.out.box.get 0 rfl)
        go_wp2_with fail
        refine HFO.out.mono ?_
        clear p0 p1 p2 p3 HFO hif
        rintro e w19 ⟨rfl, hFN⟩
        have hM2 : ((M1).drop (.flow (1, p))).F (1, p) = false := if_pos rfl
        generalize (M1).drop (.flow (1, p)) = M2 at *
        have HF20 := hide hFN
        clear hFN HF19
        go_wp2_with fail
        have HH := hide (fun (w' : World) (h : MemAt w' g m' f o b (M2) 3) => (hand_walk g m' f o b (M2) 3 1 1 (flipP p) 0 w' h (by rw [HN.out.1.1, HN.out.1.2]; exact fire_net R HN.out.2) (by unfold i64ok; omega) (by unfold i64ok; omega) (flip_ok hp) (by unfold i64ok; omega) (by omega)))
        have HS1 := hide (show handS m'.devs m'.ls (M2) 1 1 (flipP p) 0 = .bad 7 from by rw [HN.out.1.1, HN.out.1.2]; rw [fire_in_s _ _ _ _ (by rw [right_flip]; exact hrp), flip_flip, hM2]; rfl)
        simp only [HS1.out, HandS.val, HandS.bad, MS.learn, Nat.zero_add] at HH
        have HG := hide HF20.out.start
        obtain ⟨⟨p0, p1, p2, p3⟩, n1, n2⟩ := HG.out.at4 0 rfl
        go_region_held3 (fun w' => w'.cell? ⟨W.heap.size, 0, none⟩ = some (.int .i64 p.src) ∧ w'.cell? ⟨W.heap.size, 1, none⟩ = some (.int .i64 p.dst) ∧ w'.cell? ⟨W.heap.size, 2, none⟩ = some (.int .i64 p.sport) ∧ w'.cell? ⟨W.heap.size, 3, none⟩ = some (.int .i64 p.dport)) (go_keep) (first | (go_at_call 48; refine (placeOf_walk 1 1 _).mono ?_; rintro e wp ⟨rfl, hb⟩; (first | have HG := hide (HG.out.d.below hb) | have HG := hide ((HG.out.al _ _).d.below hb) | have HG := hide (HG.out.below hb) | have HG := hide ((HG.out.al _ _).below hb)); obtain ⟨⟨p0, p1, p2, p3⟩, n1, n2⟩ := HG.out.at4 0 rfl; (try obtain ⟨⟨z0, z1, z2, z3, z4, z5⟩, f0, f1, f2, f3, f4, f5⟩ := cells6 (HG.out.z _ List.mem_cons_self).1)) | (go_at_call 49; refine (flip_walk p _).mono ?_; rintro e wp ⟨rfl, hb⟩; (first | have HG := hide (HG.out.d.below hb) | have HG := hide ((HG.out.al _ _).d.below hb) | have HG := hide (HG.out.below hb) | have HG := hide ((HG.out.al _ _).below hb)); obtain ⟨⟨p0, p1, p2, p3⟩, n1, n2⟩ := HG.out.at4 0 rfl; (try obtain ⟨⟨z0, z1, z2, z3, z4, z5⟩, f0, f1, f2, f3, f4, f5⟩ := cells6 (HG.out.z _ List.mem_cons_self).1)) | (go_at_call 47; refine (HH.out _ ?_).mono ?_; (first | exact HG.out.d.mem | exact (HG.out.al _ _).d.mem | exact HG.out.mem | exact (HG.out.al _ _).mem); rintro e wp ⟨rfl, hm, hn⟩; (first | have HG := hide (HG.out.d.step hm hn) | have HG := hide ((HG.out.al _ _).d.step hm hn) | have HG := hide (HG.out.step hm hn) | have HG := hide ((HG.out.al _ _).step hm hn)); obtain ⟨⟨p0, p1, p2, p3⟩, n1, n2⟩ := HG.out.at4 0 rfl; (try obtain ⟨⟨z0, z1, z2, z3, z4, z5⟩, f0, f1, f2, f3, f4, f5⟩ := cells6 (HG.out.z _ List.mem_cons_self).1)))
        have HFz := hide HG.out.fa
        clear HG HH HS1 p0 p1 p2 p3 n1 n2
        go_wp2
        go_ret
        exact ⟨ret_bool (by simp), HFz.out.box.bl⟩
end Go.Proofs.Ytidikopjfpioaaa
