/- wirekeep.StepNat. -/
import Derived.Test.YtidikopjfpioaaaLawNat
import Derived.Test.YtidikopjfpioaaaOpens
import Derived.Test.YtidikopjfpioaaaLawSet
import Derived.Deep.DeepCutAuto
set_option linter.unusedVariables false
set_option linter.unusedSimpArgs false
namespace Go.Proofs.Ytidikopjfpioaaa
open Go.RowKit Go.Maps

set_option maxRecDepth 100000 in
set_option maxHeartbeats 16000000 in
theorem stepNat_walk (addr : Int) (pool : Nat) (A : Option Addr) (n c : Nat) (l : List P4) (C : Option Addr) (nc cc : Nat) (cs : List Int) (W : World) (hl : SlAt P4.cells 4 W W.heap.size A n l) (hok : ∀ r ∈ l, r.ok) (hcs : IntsAt W W.heap.size C nc cs) (hnc : n ≤ c ∧ c ≤ maxLen) (hcc : nc ≤ cc ∧ cc ≤ maxLen) (had : i64ok addr) (hpo : pool < 256) :
    Calls Try.prog 7 #[.int .i64 addr, .int .u8 pool, .slice A n c, .slice C nc cc] W fun e W' => e = .returned (.bool true) ∧ Below W.heap.size W W' := by
  have hmm := @run_makeMap Try.prog
  have HRE := hide (fun w => rest_walk addr 16 w had (by omega) (by omega))
  obtain ⟨ad, hadv⟩ : ∃ ad, addr % 16 = ad := ⟨_, rfl⟩
  have a0 : 0 ≤ ad := by omega
  have a1 : ad < 16 := by omega
  rw [hadv] at HRE
  clear hadv had
  obtain ⟨pl, hpl⟩ : ∃ pl, pool ||| 1 = pl := ⟨_, rfl⟩
  have hor : bits .or .u8 (pool : Int) 1 = (pl : Int) := by rw [← hpl]; exact u8_or pool 1 hpo (by omega)
  have p256 : pl < 256 := by rw [← hpl]; exact Nat.or_lt_two_pow (n := 8) (by omega) (by omega)
  have pb0 : pl.testBit 0 = true := by rw [← hpl, Nat.testBit_or]; simp
  have pn0 : pl ≠ 0 := fun e => by rw [e] at pb0; simp at pb0
  have HPL := hide (And.intro p256 (And.intro pb0 pn0))
  clear hpl p256 pb0 pn0 hpo
  have HL := hide (fun (w' : World) (hb : Below W.heap.size W w') => hl.below hb hb.size)
  have HLN := hide hl.1
  have HOK := hide hok
  have HCS := hide (fun (w' : World) (hb : Below W.heap.size W w') => hcs.below hb hb.size)
  have HCN := hide hcs.1
  have HCO := hide hcs.2.1
  have hc1 := hnc.1
  have n3 : c ≤ 9223372036854775807 := by have := hnc.2; unfold maxLen at *; omega
  have n4 : nc ≤ 9223372036854775807 := by have := hcc.1; have := hcc.2; unfold maxLen at *; omega
  clear hl hok hcs hnc hcc
  go_enter Try.func7, Try.ntmps7
  go_wp2_with ((go_at_call 43; refine (HRE.out _).mono ?_; rintro e w1 ⟨rfl, rfl⟩))
  -- AT CHAIN
  generalize hG : World.alloc W _ = W1
  have HX1 := hide (show BX W [(W.heap.size, #[.string ⟨#[]⟩, .int .i64 4, .int .i64 ad, .int .u8 (pl : Int), .slice none 0 0, .slice none 0 0, .slice none 0 0])] W1 from by
    have e := boxesV (B := W1.heap.size) [(#[.string ⟨#[]⟩, .int .i64 4, .int .i64 ad, .int .u8 (pl : Int), .slice none 0 0, .slice none 0 0, .slice none 0 0], 30)] W (W' := W1) (by rw [← hG]; exact Below.refl _ _)
    have hs : W1.heap.size = W.heap.size + 1 := by rw [← hG]; simp
    refine ⟨e.2 (by omega), fun x hx => ?_⟩
    obtain rfl := List.mem_singleton.1 hx
    exact ⟨e.1 0 _ _ rfl (by omega), by simp; omega⟩)
  clear hG
  have HCW := hide (chain_walk (natV ad pl) W1 (natAt _ _ _ _ (by unfold i64ok; omega) HPL.out.1))
  refine HCW.out.mono ?_
  clear HCW HRE
  rintro e w4 ⟨m, rfl, hm, hmd, hml, hb⟩
  have HX4 := hide (HX1.out.below hb)
  have hE : netE m.devs m.ls = 0 := by rw [hmd, hml]; exact nat_net a0 a1 HPL.out.2.2
  have HNW := hide (stepNew_ok m w4 hm hE)
  have HMD := hide (And.intro hmd hml)
  clear hm hb HX1 hE hmd hml
  go_wp2_with fail
  refine HNW.out.mono ?_
  clear HNW
  rintro e w5 ⟨g, f, o, b, m', rfl, hM, hd, hls, ⟨hg, hf, ho, hbb⟩, hb⟩
  have HF := hide (FA.new HX4.out hM ⟨hf, ho, hbb⟩ hb)
  have HN := hide (show m'.devs = chainD (natD ad pl) ∧ m'.ls = chainL from ⟨hd.trans HMD.out.1, hls.trans HMD.out.2⟩)
  clear HX4 hM hd hls hf ho hbb hb hg HMD
  go_upto_region 6 with fail
  go_cut [42, 43, 44] (fun s42 s43 s44 wx => ∃ cnt : Nat, cnt ≤ n ∧ cnt ≤ 30 ∧ s42 = .slice A cnt c ∧ s43 = .int .i64 (cnt : Int) ∧ s44 = .int .i64 0 ∧ wx = w5.alloc (.map #[] 0))
  case first =>
    go_wp2
    all_goals (go_meet; first | exact ⟨n, Nat.le_refl _, by omega, rfl, rfl, rfl, rfl⟩ | exact ⟨30, by omega, by omega, rfl, rfl, rfl, rfl⟩)
  case rest =>
    obtain ⟨cnt, hcnt, hc30, rfl, rfl, rfl, rfl⟩ := hcut
    have hi3 := hmm
    clear hmm hi3
    go_wp2_with fail
    obtain ⟨ob, hob⟩ : ∃ ob, w5.heap.size = ob := ⟨_, rfl⟩
    have HOB := hide (show W.heap.size ≤ ob ∧ ¬ Is3 f o b ob from ⟨by rw [← hob]; exact HF.out.box.bl.size, fun e => by have h1 := HF.out.mem.flt; have h2 := HF.out.mem.olt; have h3 := HF.out.mem.blt; rcases e with e | e | e <;> omega⟩)
    have HO0 := hide (show MapIs Try.prog 3 intKey i64ok (w5.alloc (.map #[] 0)) ob (fun _ => none) from by rw [← hob]; exact MapIs.made w5)
    have HF0 := hide (HF.out.below ((Below.refl _ _).alloc (Nat.le_refl _) (.map #[] 0)))
    have HI0 := hide (show NInv MS.empty (fun _ => none) pl from NInv.empty pl)
    rw [hob]
    clear hob HF
    generalize World.alloc w5 _ = w6 at *
    go_loopw [44] (fun i wr => ∃ (k : Nat) (M : MS) (Ow : Int → Option Value), k ≤ cnt ∧ i = .int .i64 k ∧ Hid (FA W [(W.heap.size, #[.string ⟨#[]⟩, .int .i64 4, .int .i64 ad, .int .u8 (pl : Int), .slice none 0 0, .slice none 0 0, .slice none 0 0])] g m' f o b M (2 * k) wr) ∧ Hid (MapIs Try.prog 3 intKey i64ok wr ob Ow) ∧ Hid (NInv M Ow pl)) (fun i _ => cnt - (intOf i).toNat)
    case atStart => exact ⟨0, MS.empty, fun _ => none, Nat.zero_le _, rfl, HF0, HO0, HI0⟩
    case round =>
    clear HF0 HO0 HI0
    obtain ⟨k, M, Ow, hk, rfl, HF, HO, HI⟩ := hrel
    by_cases hlt : k < cnt
    case neg =>
      obtain rfl : k = cnt := by omega
      have HHG := hide (fun (w' : World) (h : FA W [(W.heap.size, #[.string ⟨#[]⟩, .int .i64 4, .int .i64 ad, .int .u8 (pl : Int), .slice none 0 0, .slice none 0 0, .slice none 0 0])] g m' f o b M (2 * k) w') (S : HandS) (hS : handS m'.devs m'.ls M 1 0 ⟨0, 0, 0, 0⟩ 0 = S) => h.start.hand (i := 1) (y := 0) (p := ⟨0, 0, 0, 0⟩) (ch := 0) (by rw [HN.out.1, HN.out.2]; exact nat_net a0 a1 HPL.out.2.2) (by unfold i64ok; omega) (by unfold i64ok; omega) (by simp [P4.ok, i64ok]) (by unfold i64ok; omega) (by omega) hS)
      simp only [HandS.val] at HHG
      by_cases hE : ∀ a, i64ok a → Ow a = none
      · have HS := hide (show handS m'.devs m'.ls M 1 0 ⟨0, 0, 0, 0⟩ 0 = ⟨0, (2, 0), ⟨ad, 0, 0, 0⟩, .owner (1, 0) (0, 0)⟩ from by rw [HN.out.1, HN.out.2]; exact nat_first HI.out hE HPL.out.2.1)
        clear hE
        go_wp2_with ((go_at_call 48; refine (placeOf_walk 1 0 _).mono ?_; rintro e w7 ⟨rfl, hb⟩; have HF7 := hide (HF.out.below hb); have HO7 := hide (HO.out.below hb HO.out.lt); clear hb HF HO))
        refine (HHG.out _ HF7.out _ HS.out).mono ?_
        rintro e w8 ⟨rfl, hB⟩
        have HF8 := hide hB.fa
        have HF8 := hide hB.fa
        have HO8 := hide (HO7.out.near hB.near HO7.out.lt HOB.out.2)
        clear hB HO7 HF7 HHG HS
        have hb9 : Below w8.heap.size w8 (w8.alloc (.cells #[.int .i64 2, .int .i64 0, .int .i64 ad, .int .i64 0, .int .i64 0, .int .i64 0] 91)) := (Below.refl _ _).alloc (Nat.le_refl _) _
        have HBL := hide (HF8.out.below hb9).box.bl
        obtain ⟨nl, hlen, hcase⟩ := (HO8.out.below hb9 HO8.out.lt).len intKeys Try.underlying88
        have t2 : ∀ o', (w8.alloc o').cell? ⟨W.heap.size, 2, none⟩ = some (.int .i64 ad) := fun o' => ((HF8.out.below ((Below.refl _ _).alloc (Nat.le_refl _) o')).box.get 0 rfl).1 2 _ rfl
        clear hb9
        rcases hcase with hp | ⟨rfl, _⟩
        · have hp' : (0 : Int) < (nl : Int) := by omega
          go_wp2
          go_ret
          exact ⟨ret_bool (by simp <;> omega), HBL.out⟩
        · go_wp2
          go_ret
          exact ⟨ret_bool (by simp), HBL.out⟩
      · obtain ⟨S, hS⟩ : ∃ S, handS m'.devs m'.ls M 1 0 ⟨0, 0, 0, 0⟩ 0 = S := ⟨_, rfl⟩
        have HS := hide hS
        obtain ⟨Se, ⟨St1, St2⟩, ⟨Sa, Sb, Sc, Sd⟩, Sk⟩ := S
        clear hS
        have HE := hide hE
        clear hE
        go_wp2_with ((go_at_call 48; refine (placeOf_walk 1 0 _).mono ?_; rintro e w7 ⟨rfl, hb⟩; have HF7 := hide (HF.out.below hb); have HO7 := hide (HO.out.below hb HO.out.lt); clear hb HF HO))
        refine (HHG.out _ HF7.out _ HS.out).mono ?_
        rintro e w8 ⟨rfl, hB⟩
        have HF8 := hide hB.fa
        have HO8 := hide (HO7.out.near hB.near HO7.out.lt HOB.out.2)
        clear hB HO7 HF7 HHG HS
        have hb9 : Below w8.heap.size w8 (w8.alloc (.cells #[.int .i64 St1, .int .i64 St2, .int .i64 Sa, .int .i64 Sb, .int .i64 Sc, .int .i64 Sd] 91)) := (Below.refl _ _).alloc (Nat.le_refl _) _
        have HBL := hide (HF8.out.below hb9).box.bl
        obtain ⟨nl, hlen, hcase⟩ := (HO8.out.below hb9 HO8.out.lt).len intKeys Try.underlying88
        clear hb9
        have hp : 0 < nl := by rcases hcase with hp | ⟨_, h0⟩; exact hp; exact absurd h0 HE.out
        have hp' : (0 : Int) < (nl : Int) := by omega
        clear hcase
        go_wp2
        go_ret
        exact ⟨ret_bool (by simp <;> omega), HBL.out⟩
    obtain ⟨p, hp⟩ : ∃ p, l[k]? = some p := ⟨_, List.getElem?_eq_getElem (by have := HLN.out; omega)⟩
    have hsl := HL.out _ HF.out.box.bl
    obtain ⟨bA, oA, rfl, hbB, _⟩ := hsl.2 (by omega)
    obtain ⟨_, hg⟩ := hsl.get hp
    have q0 := hg 0 _ rfl
    have q1 := hg 1 _ rfl
    have q2 := hg 2 _ rfl
    have q3 := hg 3 _ rfl
    rw [Nat.add_zero] at q0
    have HPK := hide (HOK.out p (List.mem_of_getElem? hp))
    clear hg hp hsl hbB
    go_wp2_with fail
    have HF1 := hide (HF.out.start.al #[.int .i64 p.src, .int .i64 p.dst, .int .i64 p.sport, .int .i64 p.dport] 42).done
    have HO1 := hide (HO.out.below ((Below.refl _ _).alloc (Nat.le_refl _) (.cells #[.int .i64 p.src, .int .i64 p.dst, .int .i64 p.sport, .int .i64 p.dport] 42)) HO.out.lt)
    have hNs : W.heap.size ≤ wr.heap.size := HF.out.box.bl.size
    obtain ⟨N, hN⟩ : ∃ N, wr.heap.size = N := ⟨_, rfl⟩
    rw [hN] at HF1 hNs ⊢
    clear hN HF HO q0 q1 q2 q3
    generalize World.alloc wr _ = w1 at *
    refine (packetCheck_walk p w1).mono ?_
    rintro e w2 ⟨he, hb⟩
    have HF2 := hide (HF1.out.below hb)
    have HO2 := hide (HO1.out.below hb HO1.out.lt)
    clear hb HF1 HO1
    cases hrp : rightB p
    · rw [hrp] at he
      obtain rfl : e = .returned (.int .i64 1) := he
      go_wp2
      go_roundw
      case rel => exact ⟨k + 1, M, Ow, by omega, by go_num, hide (HF2.out.less.up (by omega)), HO2, HI⟩
      case measure => simp [intOf]; omega
    rw [hrp] at he
    obtain rfl : e = .returned (.int .i64 0) := he
    have HRP := hide hrp
    clear hrp
    go_upto_if 55 with fail
    go_cut [15, 44] from 44 to 156 (fun s15 s44 wx => ∃ ch : Int, s15 = .int .i64 ch ∧ i64ok ch ∧ s44 = .int .i64 (k : Int) ∧ wx = w2)
    case first =>
      by_cases hk2 : k < nc
      · obtain ⟨x, hx⟩ : ∃ x, cs[k]? = some x := ⟨_, List.getElem?_eq_getElem (by have := HCN.out; omega)⟩
        obtain ⟨bC, oC, rfl, _, hg⟩ := (HCS.out _ HF2.out.box.bl).2.2 (by omega)
        have c0 := hg k x hx
        have hxo := HCO.out x (List.mem_of_getElem? hx)
        clear hx hg
        go_wp2
        go_meet
        exact ⟨x, rfl, hxo, rfl, rfl⟩
      · go_wp2
        go_meet
        exact ⟨0, rfl, by unfold i64ok; omega, rfl, rfl⟩
    case rest =>
      obtain ⟨ch, rfl, hch, rfl, rfl⟩ := hcut
      have HCH := hide hch
      clear hch
      go_wp2_with fail
      have HOx := HO2
      clear HO2
      rcases nat_goes (ad := ad) (ch := ch) HI.out HRP.out with ⟨ev, hev, hS⟩ | ⟨kk, h0, h8, hbit, hS, hOw, hI2⟩
      case inl =>
        have e1 : (ev == 0) = false := by simpa using hev
        have e2 : (ev != 0) = true := by simpa using hev
        clear hev
        have HH := hide (fun (w' : World) (h : MemAt w' g m' f o b (M) (2 * k)) => (hand_walk g m' f o b (M) (2 * k) 1 0 (p) ch w' h (by rw [HN.out.1, HN.out.2]; exact nat_net a0 a1 HPL.out.2.2) (by unfold i64ok; omega) (by unfold i64ok; omega) HPK.out HCH.out (by omega)))
        have HS1 := hide (show handS m'.devs m'.ls (M) 1 0 (p) ch = .bad ev from by rw [HN.out.1, HN.out.2]; exact hS)
        simp only [HS1.out, HandS.val, HandS.bad, MS.learn, Nat.zero_add] at HH
        clear hS
        have HG := hide HF2.out.start
        obtain ⟨⟨p0, p1, p2, p3⟩, n1, n2⟩ := HG.out.at4 0 rfl
        apply cut_region (C := fun NA w' => FA W ((NA, #[.int .i64 0, .int .i64 0, .int .i64 0, .int .i64 0, .int .i64 0, .int .i64 0]) :: ((N, #[.int .i64 p.src, .int .i64 p.dst, .int .i64 p.sport, .int .i64 p.dport]) :: [(W.heap.size, #[.string ⟨#[]⟩, .int .i64 4, .int .i64 ad, .int .u8 (pl : Int), .slice none 0 0, .slice none 0 0, .slice none 0 0])])) g m' f o b M (2 * k + 1) w' ∧ Near (Is3 f o b) wc.heap.size wc w')
        · intro HK
          go_region_held3 (fun w' => w'.cell? ⟨N, 0, none⟩ = some (.int .i64 p.src) ∧ w'.cell? ⟨N, 1, none⟩ = some (.int .i64 p.dst) ∧ w'.cell? ⟨N, 2, none⟩ = some (.int .i64 p.sport) ∧ w'.cell? ⟨N, 3, none⟩ = some (.int .i64 p.dport)) (go_keep) (first | (go_at_call 48; refine (placeOf_walk 1 0 _).mono ?_; rintro e wp ⟨rfl, hb⟩; (first | have HG := hide (HG.out.d.below hb) | have HG := hide ((HG.out.al _ _).d.below hb) | have HG := hide (HG.out.below hb) | have HG := hide ((HG.out.al _ _).below hb)); obtain ⟨⟨p0, p1, p2, p3⟩, n1, n2⟩ := HG.out.at4 0 rfl; (try obtain ⟨⟨z0, z1, z2, z3, z4, z5⟩, f0, f1, f2, f3, f4, f5⟩ := cells6 (HG.out.z _ List.mem_cons_self).1)) | (go_at_call 47; refine (HH.out _ ?_).mono ?_; (first | exact HG.out.d.mem | exact (HG.out.al _ _).d.mem | exact HG.out.mem | exact (HG.out.al _ _).mem); rintro e wp ⟨rfl, hm, hn⟩; (first | have HG := hide (HG.out.d.step hm hn) | have HG := hide ((HG.out.al _ _).d.step hm hn) | have HG := hide (HG.out.step hm hn) | have HG := hide ((HG.out.al _ _).step hm hn)); obtain ⟨⟨p0, p1, p2, p3⟩, n1, n2⟩ := HG.out.at4 0 rfl; (try obtain ⟨⟨z0, z1, z2, z3, z4, z5⟩, f0, f1, f2, f3, f4, f5⟩ := cells6 (HG.out.z _ List.mem_cons_self).1)))
          all_goals (first | (obtain ⟨N', w', e1, e2, q⟩ := (HG.out.al #[.int .i64 0, .int .i64 0, .int .i64 0, .int .i64 0, .int .i64 0, .int .i64 0] 91).leafN; rw [e2, e1]; exact HK.out _ _ q) | (obtain ⟨N', w', e1, e2, q⟩ := (((((((HG.out.set 0 (.int .i64 0)).set 1 (.int .i64 0)).set 2 (.int .i64 0)).set 3 (.int .i64 0)).set 4 (.int .i64 0)).set 5 (.int .i64 0))).leafN; rw [e2, e1]; exact HK.out _ _ q))
        clear HG HF2
        intro NA w15 hFN
        have HF15 := hide hFN.1
        have HO15 := hide (HOx.out.near hFN.2 HOx.out.lt HOB.out.2)
        clear hFN
        try clear HH HS1 p0 p1 p2 p3 n1 n2
        go_wp2
        go_roundw
        case rel => exact ⟨k + 1, M, Ow, by omega, by go_num, hide (HF15.out.less.less.up (by omega)), HO15, HI⟩
        case measure => simp [intOf]; omega
      case inr =>
        have HB := hide (show kk < 8 ∧ 0 ≤ kk ∧ pl.testBit kk.toNat = true from ⟨h8, h0, hbit⟩)
        have HH := hide (fun (w' : World) (h : MemAt w' g m' f o b (M) (2 * k)) => (hand_walk g m' f o b (M) (2 * k) 1 0 (p) ch w' h (by rw [HN.out.1, HN.out.2]; exact nat_net a0 a1 HPL.out.2.2) (by unfold i64ok; omega) (by unfold i64ok; omega) HPK.out HCH.out (by omega)))
        have HS1 := hide (show handS m'.devs m'.ls (M) 1 0 (p) ch = ⟨0, (2, 0), ⟨ad, p.dst, kk, p.dport⟩, .owner (1, kk) (p.src, p.sport)⟩ from by rw [HN.out.1, HN.out.2]; exact hS)
        simp only [HS1.out, HandS.val, Nat.zero_add] at HH
        clear hS
        have HG := hide HF2.out.start
        obtain ⟨⟨p0, p1, p2, p3⟩, n1, n2⟩ := HG.out.at4 0 rfl
        apply cut_region (C := fun NA w' => FA W ((NA, #[.int .i64 2, .int .i64 0, .int .i64 ad, .int .i64 p.dst, .int .i64 kk, .int .i64 p.dport]) :: ((N, #[.int .i64 p.src, .int .i64 p.dst, .int .i64 p.sport, .int .i64 p.dport]) :: [(W.heap.size, #[.string ⟨#[]⟩, .int .i64 4, .int .i64 ad, .int .u8 (pl : Int), .slice none 0 0, .slice none 0 0, .slice none 0 0])])) g m' f o b (M.learn (.owner (1, kk) (p.src, p.sport))) (2 * k + 1) w' ∧ Near (Is3 f o b) wc.heap.size wc w')
        · intro HK
          go_region_held3 (fun w' => w'.cell? ⟨N, 0, none⟩ = some (.int .i64 p.src) ∧ w'.cell? ⟨N, 1, none⟩ = some (.int .i64 p.dst) ∧ w'.cell? ⟨N, 2, none⟩ = some (.int .i64 p.sport) ∧ w'.cell? ⟨N, 3, none⟩ = some (.int .i64 p.dport)) (go_keep) (first | (go_at_call 48; refine (placeOf_walk 1 0 _).mono ?_; rintro e wp ⟨rfl, hb⟩; (first | have HG := hide (HG.out.d.below hb) | have HG := hide ((HG.out.al _ _).d.below hb) | have HG := hide (HG.out.below hb) | have HG := hide ((HG.out.al _ _).below hb)); obtain ⟨⟨p0, p1, p2, p3⟩, n1, n2⟩ := HG.out.at4 0 rfl; (try obtain ⟨⟨z0, z1, z2, z3, z4, z5⟩, f0, f1, f2, f3, f4, f5⟩ := cells6 (HG.out.z _ List.mem_cons_self).1)) | (go_at_call 47; refine (HH.out _ ?_).mono ?_; (first | exact HG.out.d.mem | exact (HG.out.al _ _).d.mem | exact HG.out.mem | exact (HG.out.al _ _).mem); rintro e wp ⟨rfl, hm, hn⟩; (first | have HG := hide (HG.out.d.step hm hn) | have HG := hide ((HG.out.al _ _).d.step hm hn) | have HG := hide (HG.out.step hm hn) | have HG := hide ((HG.out.al _ _).step hm hn)); obtain ⟨⟨p0, p1, p2, p3⟩, n1, n2⟩ := HG.out.at4 0 rfl; (try obtain ⟨⟨z0, z1, z2, z3, z4, z5⟩, f0, f1, f2, f3, f4, f5⟩ := cells6 (HG.out.z _ List.mem_cons_self).1)))
          all_goals (first | (obtain ⟨N', w', e1, e2, q⟩ := (HG.out.al #[.int .i64 2, .int .i64 0, .int .i64 ad, .int .i64 p.dst, .int .i64 kk, .int .i64 p.dport] 91).leafN; rw [e2, e1]; exact HK.out _ _ q) | (obtain ⟨N', w', e1, e2, q⟩ := (((((((HG.out.set 0 (.int .i64 2)).set 1 (.int .i64 0)).set 2 (.int .i64 ad)).set 3 (.int .i64 p.dst)).set 4 (.int .i64 kk)).set 5 (.int .i64 p.dport))).leafN; rw [e2, e1]; exact HK.out _ _ q))
        clear HG HF2
        intro NA w15 hFN
        have HF15 := hide hFN.1
        have HO15 := hide (HOx.out.near hFN.2 HOx.out.lt HOB.out.2)
        clear hFN
        try clear HH HS1 p0 p1 p2 p3 n1 n2
        have hM1 : (M.learn (.owner (1, kk) (p.src, p.sport))).O (1, kk) = some (p.src, p.sport) := by simp [MS.learn]
        have HI2 := hide hI2
        clear hI2
        generalize M.learn (.owner (1, kk) (p.src, p.sport)) = M1 at *
        have HM1 := hide hM1
        clear hM1
        have hki : i64ok kk := by unfold i64ok; omega
        obtain ⟨u1, u2, tb, hlk, htb⟩ := MapIs.packs (ob := ob) (p.src, p.sport) hki hOw
        have HTB := hide htb
        have HLK := hide hlk
        have HKI := hide hki
        clear htb hlk hki hOw
        have hlk := fun (o' : Obj) => HLK.out _ (HO15.out.below ((Below.refl _ _).alloc (Nat.le_refl _) o') HO15.out.lt)
        have x4 := ((HF15.out.box.get 0 rfl).1 4 _ rfl : w15.cell? ⟨NA, 4, none⟩ = some (.int .i64 kk))
        obtain ⟨p0, p1, p2, p3⟩ := cells4 (HF15.out.box.get 1 rfl)
        have d1 : decide (kk < 0) = false := by simp; omega
        have d2 : decide (7 < kk) = false := by simp; omega
        clear h0 h8 hbit
        go_upto_region 20 with fail
        clear p0 p1 p2 p3 x4 hlk d1 d2
        have HF20 := hide ((HF15.out.start.al #[.int .i64 p.src, .int .i64 0, .int .i64 p.sport, .int .i64 0] 42).done.start.al #[.int .i64 u1, .int .i64 0, .int .i64 u2, .int .i64 0] 42).done
        have HO20 := hide ((HO15.out.below ((Below.refl _ _).alloc (Nat.le_refl _) (.cells #[.int .i64 p.src, .int .i64 0, .int .i64 p.sport, .int .i64 0] 42)) HO15.out.lt).below ((Below.refl _ _).alloc (Nat.le_refl _) (.cells #[.int .i64 u1, .int .i64 0, .int .i64 u2, .int .i64 0] 42)) (Nat.lt_of_lt_of_le HO15.out.lt (by simp)))
        obtain ⟨N1, hN1⟩ : ∃ N1, w15.heap.size = N1 := ⟨_, rfl⟩
        have hN2 : (w15.alloc (.cells #[.int .i64 p.src, .int .i64 0, .int .i64 p.sport, .int .i64 0] 42)).heap.size = N1 + 1 := by rw [← hN1]; simp
        rw [hN2, hN1] at HF20
        rw [hN1]
        clear hN1 hN2 HF15 HO15 HLK
        generalize World.alloc (World.alloc w15 _) _ = w20 at *
        go_cut [127, 44] from 44 to 156 (fun s127 s44 wx => s127 = .bool false ∧ s44 = .int .i64 (k : Int) ∧ wx = w20)
        case first =>
          obtain ⟨⟨_, _, x2, x3, x4, x5⟩, _⟩ := cells6 (HF20.out.box.get 2 rfl)
          obtain ⟨p0, p1, p2, p3⟩ := cells4 (HF20.out.box.get 3 rfl)
          obtain ⟨u0, v1, v2, v3⟩ := cells4 (HF20.out.box.get 0 rfl)
          obtain ⟨o0, o1, o2, o3⟩ := cells4 (HF20.out.box.get 1 rfl)
          have t2 : w20.cell? ⟨W.heap.size, 2, none⟩ = some (.int .i64 ad) := (HF20.out.box.get 4 rfl).1 2 _ rfl
          have hbn := bit_u8_no pl kk.toNat HPL.out.1
          rw [HB.out.2.2, Bool.not_true] at hbn
          have k0 : 0 ≤ kk := HB.out.2.1
          have k8 : kk < 8 := HB.out.1
          cases tb
          · go_wp2
            go_meet
            exact ⟨rfl, rfl, rfl⟩
          · obtain ⟨rfl, rfl⟩ := HTB.out rfl
            go_wp2
            go_meet
            exact ⟨rfl, rfl, rfl⟩
        case rest =>
          obtain ⟨rfl, rfl, rfl⟩ := hcut
          obtain ⟨w22, hrun, hmap, hturn⟩ := HO20.out.storeA intKeys [0, 1, 2, 3, 4, 5, 6, 7] (by unfold maxLen; decide) HI.out.keys Try.underlying88 HKI.out (packV (p.src, p.sport))
          have HF22 := hide (HF20.out.turned hturn HOB.out.2 HOB.out.1).less.less
          have HO22 := hide hmap
          simp only [intKey, packV] at hrun
          obtain ⟨o0, o1, o2, o3⟩ := cells4 (HF20.out.box.get 1 rfl)
          clear hmap hturn HO20 HI HTB
          -- R22
          go_wp2_with fail
          clear hrun o0 o1 o2 o3 HF20
          have HFL := hide (fun (w' : World) => flip_walk ⟨ad, p.dst, kk, p.dport⟩ w')
          simp only at HFL
          have HH := hide (fun (w' : World) (h : MemAt w' g m' f o b (M1) (2 * k + 1)) => (hand_walk g m' f o b (M1) (2 * k + 1) 1 1 (⟨p.dst, ad, p.dport, kk⟩) ch w' h (by rw [HN.out.1, HN.out.2]; exact nat_net a0 a1 HPL.out.2.2) (by unfold i64ok; omega) (by unfold i64ok; omega) ⟨HPK.out.2.1, by show i64ok ad; unfold i64ok; omega, HPK.out.2.2.2, HKI.out⟩ HCH.out (by omega)))
          have hqr : rightB ⟨p.dst, ad, p.dport, kk⟩ = true := by
            have h1 := HB.out.1
            have h2 := HB.out.2.1
            have h3 := HRP.out
            simp only [rightB, inR, Bool.and_eq_true, decide_eq_true_eq] at h3 ⊢
            omega
          have HS1 := hide (show handS m'.devs m'.ls (M1) 1 1 (⟨p.dst, ad, p.dport, kk⟩) ch = ⟨0, (0, 0), ⟨p.dst, p.src, p.dport, p.sport⟩, .nothing⟩ from by rw [HN.out.1, HN.out.2]; exact nat_comes (u := (p.src, p.sport)) hqr HM1.out)
          clear hqr
          simp only [HS1.out, HandS.val, MS.learn, Nat.zero_add] at HH
          have HOx := HO22
          clear HO22
          have HG := hide HF22.out.start
          obtain ⟨⟨p0, p1, p2, p3⟩, n1, n2⟩ := HG.out.at6 0 rfl
          apply cut_region (C := fun NB w' => FA W ((NB, #[.int .i64 0, .int .i64 0, .int .i64 p.dst, .int .i64 p.src, .int .i64 p.dport, .int .i64 p.sport]) :: ((NA, #[.int .i64 2, .int .i64 0, .int .i64 ad, .int .i64 p.dst, .int .i64 kk, .int .i64 p.dport]) :: ((N, #[.int .i64 p.src, .int .i64 p.dst, .int .i64 p.sport, .int .i64 p.dport]) :: [(W.heap.size, #[.string ⟨#[]⟩, .int .i64 4, .int .i64 ad, .int .u8 (pl : Int), .slice none 0 0, .slice none 0 0, .slice none 0 0])]))) g m' f o b M1 (2 * k + 1 + 1) w' ∧ Near (Is3 f o b) w22.heap.size w22 w')
          · intro HK
            go_region_held3 (fun w' => w'.cell? ⟨NA, 2, none⟩ = some (.int .i64 ad) ∧ w'.cell? ⟨NA, 3, none⟩ = some (.int .i64 p.dst) ∧ w'.cell? ⟨NA, 4, none⟩ = some (.int .i64 kk) ∧ w'.cell? ⟨NA, 5, none⟩ = some (.int .i64 p.dport)) (go_keep) (first | (go_at_call 48; refine (placeOf_walk 1 1 _).mono ?_; rintro e wp ⟨rfl, hb⟩; (first | have HG := hide (HG.out.d.below hb) | have HG := hide ((HG.out.al _ _).d.below hb) | have HG := hide (HG.out.below hb) | have HG := hide ((HG.out.al _ _).below hb)); obtain ⟨⟨p0, p1, p2, p3⟩, n1, n2⟩ := HG.out.at6 0 rfl; (try obtain ⟨⟨z0, z1, z2, z3, z4, z5⟩, f0, f1, f2, f3, f4, f5⟩ := cells6 (HG.out.z _ List.mem_cons_self).1)) | (go_at_call 49; refine (HFL.out _).mono ?_; rintro e wp ⟨rfl, hb⟩; (first | have HG := hide (HG.out.d.below hb) | have HG := hide ((HG.out.al _ _).d.below hb) | have HG := hide (HG.out.below hb) | have HG := hide ((HG.out.al _ _).below hb)); obtain ⟨⟨p0, p1, p2, p3⟩, n1, n2⟩ := HG.out.at6 0 rfl; (try obtain ⟨⟨z0, z1, z2, z3, z4, z5⟩, f0, f1, f2, f3, f4, f5⟩ := cells6 (HG.out.z _ List.mem_cons_self).1)) | (go_at_call 47; refine (HH.out _ ?_).mono ?_; (first | exact HG.out.d.mem | exact (HG.out.al _ _).d.mem | exact HG.out.mem | exact (HG.out.al _ _).mem); rintro e wp ⟨rfl, hm, hn⟩; (first | have HG := hide (HG.out.d.step hm hn) | have HG := hide ((HG.out.al _ _).d.step hm hn) | have HG := hide (HG.out.step hm hn) | have HG := hide ((HG.out.al _ _).step hm hn)); obtain ⟨⟨p0, p1, p2, p3⟩, n1, n2⟩ := HG.out.at6 0 rfl; (try obtain ⟨⟨z0, z1, z2, z3, z4, z5⟩, f0, f1, f2, f3, f4, f5⟩ := cells6 (HG.out.z _ List.mem_cons_self).1)))
            all_goals (first | (obtain ⟨N', w', e1, e2, q⟩ := (HG.out.al #[.int .i64 0, .int .i64 0, .int .i64 p.dst, .int .i64 p.src, .int .i64 p.dport, .int .i64 p.sport] 91).leafN; rw [e2, e1]; exact HK.out _ _ q) | (obtain ⟨N', w', e1, e2, q⟩ := (((((((HG.out.set 0 (.int .i64 0)).set 1 (.int .i64 0)).set 2 (.int .i64 p.dst)).set 3 (.int .i64 p.src)).set 4 (.int .i64 p.dport)).set 5 (.int .i64 p.sport))).leafN; rw [e2, e1]; exact HK.out _ _ q))
          clear HG HF22
          intro NB w24 hFN
          have HF24 := hide hFN.1
          have HO24 := hide (HOx.out.near hFN.2 HOx.out.lt HOB.out.2)
          clear hFN
          try clear HFL HH HS1 p0 p1 p2 p3 n1 n2
          go_wp2_with fail
          refine wp_region_abs (by kernel_rfl) (by kernel_rfl) ?_
          intro T hT gt hg1 hgi
          have HGT := hide hg1
          have HGI := hide hgi
          clear hg1 hgi
          have b0 : ∀ t, (gt t).cell? ⟨NB, 0, none⟩ = some (.int .i64 0) := fun t => ((HF24.out.below (HGT.out t)).box.get 0 rfl).1 0 _ rfl
          have b1 : ∀ t, (gt t).cell? ⟨NB, 1, none⟩ = some (.int .i64 0) := fun t => ((HF24.out.below (HGT.out t)).box.get 0 rfl).1 1 _ rfl
          have b2 : ∀ t, (gt t).cell? ⟨NB, 2, none⟩ = some (.int .i64 p.dst) := fun t => ((HF24.out.below (HGT.out t)).box.get 0 rfl).1 2 _ rfl
          have b3 : ∀ t, (gt t).cell? ⟨NB, 3, none⟩ = some (.int .i64 p.src) := fun t => ((HF24.out.below (HGT.out t)).box.get 0 rfl).1 3 _ rfl
          have b4 : ∀ t, (gt t).cell? ⟨NB, 4, none⟩ = some (.int .i64 p.dport) := fun t => ((HF24.out.below (HGT.out t)).box.get 0 rfl).1 4 _ rfl
          have b5 : ∀ t, (gt t).cell? ⟨NB, 5, none⟩ = some (.int .i64 p.sport) := fun t => ((HF24.out.below (HGT.out t)).box.get 0 rfl).1 5 _ rfl
          have k0 : ∀ t, (gt t).cell? ⟨N, 0, none⟩ = some (.int .i64 p.src) := fun t => ((HF24.out.below (HGT.out t)).box.get 2 rfl).1 0 _ rfl
          have k1 : ∀ t, (gt t).cell? ⟨N, 1, none⟩ = some (.int .i64 p.dst) := fun t => ((HF24.out.below (HGT.out t)).box.get 2 rfl).1 1 _ rfl
          have k2 : ∀ t, (gt t).cell? ⟨N, 2, none⟩ = some (.int .i64 p.sport) := fun t => ((HF24.out.below (HGT.out t)).box.get 2 rfl).1 2 _ rfl
          have k3 : ∀ t, (gt t).cell? ⟨N, 3, none⟩ = some (.int .i64 p.dport) := fun t => ((HF24.out.below (HGT.out t)).box.get 2 rfl).1 3 _ rfl
          repeat (go_big_quiet_step (first | (go_at_call 49; exact inAbs HGT.out HGI.out (flip_walk p _)) | (go_at_call 48; exact inAbs HGT.out HGI.out (placeOf_walk 0 0 _))))
          refine wpQuiet_nil ?_
          intro _ hw'
          obtain ⟨t, rfl⟩ := hw'
          have HF25 := hide (HF24.out.below (HGT.out t)).less.less.less
          have HO25 := hide (HO24.out.below (HGT.out t) HO24.out.lt)
          generalize gt t = w25 at *
          clear b0 b1 b2 b3 b4 b5 k0 k1 k2 k3 HGT HGI HF24 HO24
          go_wp2
          go_roundw
          case rel => exact ⟨k + 1, M1, _, by omega, by go_num, hide (HF25.out.up (by omega)), HO25, HI2⟩
          case measure => simp [intOf]; omega
end Go.Proofs.Ytidikopjfpioaaa
