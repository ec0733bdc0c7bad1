/- wireward/wirekeep.PacketBack: whatever is handed in (of bulk at most 1048576), it returns true, and leaves the input as it reads; the tables that it names read as the program's text lays them. -/
import Derived.Test.YtohbafigjpoijaaDoorPb1
import Derived.Deep.DeepHandedRow
import Derived.LaidMore
import Derived.Shelf.Vars
import Derived.ChangeMaps5
import Derived.Test.YtohbafigjpoijaaDoorCards
import Derived.Test.YtohbafigjpoijaaDoorTie
set_option linter.unusedVariables false
set_option linter.unusedSimpArgs false
set_option maxRecDepth 100000
set_option maxHeartbeats 4000000
namespace Go.Proofs.YtohbafigjpoijaaDoor
open Go.RowKit
theorem print_const : printF ⟨1, 3, 2, 4⟩ = [49, 58, 50, 62, 51, 58, 52] ∧ rightB ⟨1, 3, 2, 4⟩ = true := by
  have h : rightB ⟨1, 3, 2, 4⟩ = true := by decide
  refine ⟨?_, h⟩
  rw [printF, if_pos h]
  simp [packT, endT, dig_dec]
theorem packetBack_walk (p : P4) (l : List UInt8) (W : World) (hs : l.length ≤ 1048576) (hm : MaxAt W) :
    Calls Tryd.prog 4 #[.agg #[.int .i64 p.src, .int .i64 p.dst, .int .i64 p.sport, .int .i64 p.dport], .string ⟨l.toArray⟩] W fun e W' => e = .returned (.bool true) ∧ Below W.heap.size W W' := by
  have HPC := hide (fun w => (print_walk ⟨1, 3, 2, 4⟩ w).mono (fun e w' h => show e = .returned (.tuple #[.string ⟨#[49, 58, 50, 62, 51, 58, 52]⟩, .int .i64 0]) ∧ Below w.heap.size w w' from by
    rw [print_const.1, print_const.2] at h; exact h))
  have HCO := hide (fun w => code_walk p w)
  have HPR := hide (fun w => print_walk p w)
  have HFL := hide (fun w => flipS_walk p.src p.dst p.sport p.dport w)
  have HFM := hide (fun w => flipS_walk p.dst p.src p.dport p.sport w)
  have HPA := hide (fun (w : World) (hb : Below W.heap.size W w) => parse_walk l w hs (hm.below hb))
  have HPT := hide (fun (w : World) (hr : rightB p = true) (hb : Below W.heap.size W w) => (parse_walk (packT p) w (by
      obtain ⟨a, b, c, d, rfl, h1, h2, h3, h4⟩ := right_nats hr
      have := endT_len (show a < 100 by omega) (show c < 100 by omega)
      have := endT_len (show b < 100 by omega) (show d < 100 by omega)
      simp [packT]; omega) (hm.below hb)).mono (fun e w' h => show e = .returned (.tuple #[.agg #[.int .i64 p.src, .int .i64 p.dst, .int .i64 p.sport, .int .i64 p.dport], .int .i64 0]) ∧ Below w.heap.size w w' from by
    simp only [parseV, parse_print hr] at h; exact h))
  have HOF := hide (fun (w : World) (hr : rightB p = true) => (of_walk w (codeP p) (code_lt hr)).mono (fun e w' h => show e = .returned (.tuple #[.agg #[.int .i64 p.src, .int .i64 p.dst, .int .i64 p.sport, .int .i64 p.dport], .int .i64 0]) ∧ Below w.heap.size w w' from by
    rw [pk_val, pk_code hr] at h; exact h))
  -- what was read is printed
  obtain ⟨⟨d0, d1, d2, d3⟩, j, hj⟩ : ∃ d j, parseF l = (d, j) := ⟨_, _, rfl⟩
  have hV : parseV l = .tuple #[.agg #[.int .i64 d0, .int .i64 d1, .int .i64 d2, .int .i64 d3], .int .i64 j] := by simp only [parseV, hj]
  have hend : (j = 0 ∧ rightB ⟨d0, d1, d2, d3⟩ = true ∧ printF ⟨d0, d1, d2, d3⟩ = l) ∨ (j = 3) := by
    rcases parse_err l with h | h
    · have hp := print_parse h
      rw [hj] at h hp
      left
      exact ⟨h, hp.1, by rw [printF, if_pos hp.1]; exact hp.2⟩
    · rw [hj] at h
      right
      exact congrArg Prod.snd h
  rw [hV] at HPA
  have HP2 := hide (fun w => print_walk ⟨d0, d1, d2, d3⟩ w)
  have HEND := hide hend
  clear hV hj hm hend
  obtain ⟨R, hRR⟩ : ∃ R, rightB p = R := ⟨_, rfl⟩
  rw [hRR] at HCO HPR HPT HOF
  obtain ⟨TT, hTT⟩ : ∃ T, printF p = T := ⟨_, rfl⟩
  have hTP : R = true → packT p = TT := fun h => by rw [← hTT, printF, if_pos (hRR.trans h)]
  have HPT' := hide (fun (w : World) (hr : R = true) (hb : Below W.heap.size W w) => by have h := HPT.out w hr hb; rw [hTP hr] at h; exact h)
  rw [hTT] at HPR
  obtain ⟨CC, hCC⟩ : ∃ C, (codeP p : Int) = C := ⟨_, rfl⟩
  rw [hCC] at HCO HOF
  obtain ⟨a, b, c, d⟩ := p
  simp only [strV] at HCO HPR HPT' HFL HFM HOF HPA HP2
  clear HPT hTP hTT hCC hRR
  go_enter Tryd.func4, Tryd.ntmps4
  go_wp2_with fail
  have HK0 := hide ((Kp.nil W).al #[.int .i64 a, .int .i64 b, .int .i64 c, .int .i64 d] 23)
  generalize W.alloc (.cells #[.int .i64 a, .int .i64 b, .int .i64 c, .int .i64 d] 23) = w0 at *
  refine (HPC.out _).mono ?_
  rintro e w1 ⟨rfl, hb⟩
  have HK1 := hide (HK0.out.below hb)
  clear hb HK0 HPC
  go_wp2
  refine wp_region_abs (by kernel_rfl) (by kernel_rfl) ?_
  intro T hT gt hg1 hgi
  have HGT := hide hg1
  have HGI := hide hgi
  clear hg1 hgi
  have HC := hide (fun t i N x0 x1 x2 x3 hx => (HK1.out.below (HGT.out t)).c4 i (N := N) (x0 := x0) (x1 := x1) (x2 := x2) (x3 := x3) hx)
  have kpa : ∀ t, (gt t).cell? ⟨W.heap.size, 0, none⟩ = some (.int .i64 a) := fun t => (HC.out t 0 _ _ _ _ _ rfl).2.1
  have kpb : ∀ t, (gt t).cell? ⟨W.heap.size, 1, none⟩ = some (.int .i64 b) := fun t => (HC.out t 0 _ _ _ _ _ rfl).2.2.1
  have kpc : ∀ t, (gt t).cell? ⟨W.heap.size, 2, none⟩ = some (.int .i64 c) := fun t => (HC.out t 0 _ _ _ _ _ rfl).2.2.2.1
  have kpd : ∀ t, (gt t).cell? ⟨W.heap.size, 3, none⟩ = some (.int .i64 d) := fun t => (HC.out t 0 _ _ _ _ _ rfl).2.2.2.2.1
  clear HC
  repeat (go_big_quiet_step ((first | (go_at_call_of 20 (Value.agg #[.int .i64 a, .int .i64 b, .int .i64 c, .int .i64 d]); exact inAbs HGT.out HGI.out (HFL.out _)) | (go_at_call_of 20 (Value.agg #[.int .i64 b, .int .i64 a, .int .i64 d, .int .i64 c]); exact inAbs HGT.out HGI.out (HFM.out _)))))
  refine wpQuiet_nil ?_
  intro _ hw'
  obtain ⟨t, rfl⟩ := hw'
  have HK2 := hide (HK1.out.below (HGT.out t))
  generalize gt t = w2 at *
  clear HGT HGI kpa kpb kpc kpd HK1 HFL HFM
  obtain ⟨_, u0, u1, u2, u3, _⟩ := HK2.out.c4 0 rfl
  go_wp2_with fail
  clear u0 u1 u2 u3
  refine (HCO.out _).mono ?_
  rintro e w3 ⟨rfl, hb⟩
  have HK3 := hide (HK2.out.below hb)
  clear hb HK2 HCO
  cases R with
  | false =>
    simp only [Bool.false_eq_true, if_false] at HPR ⊢
    have HK9 := HK3
    clear HK3
    go_wp2_with fail
    refine (HPA.out _ HK9.out.bl).mono ?_
    rintro e w10 ⟨rfl, hb⟩
    have HK10' := hide (HK9.out.below hb)
    clear hb HK9 HPA
    obtain ⟨_, z0, z1, z2, z3, z4, z5, z6, z7⟩ := HK10'.out.c4 0 rfl
    have HK10 := hide (HK10'.out.set4 (by simp) (Nat.le_refl _) (.int .i64 d0) (.int .i64 d1) (.int .i64 d2) (.int .i64 d3))
    obtain ⟨_, u0, u1, u2, u3, _⟩ := HK10.out.c4 0 rfl
    clear HK10'
    go_wp2_with fail
    generalize hw5 : World.setCell _ _ _ = w11 at *
    clear hw5 z0 z1 z2 z3 z4 z5 z6 z7
    refine (HP2.out _).mono ?_
    rintro e w12 ⟨rfl, hb⟩
    have HB := hide (HK10.out.below hb).bl
    clear hb HK10 HP2
    rcases HEND.out with ⟨rfl, hr, hp⟩ | rfl
    · rw [hr, hp]
      simp only [if_true]
      clear hr hp HEND
      go_wp2
      go_ret
      exact ⟨rfl, HB.out⟩
    · generalize (if rightB ⟨d0, d1, d2, d3⟩ = true then (0 : Int) else 1) = F2
      clear HEND
      go_wp2
      go_ret
      exact ⟨rfl, HB.out⟩
  | true =>
    simp only [if_true] at HPR ⊢
    go_wp2_with fail
    refine (HOF.out _ (by trivial)).mono ?_
    rintro e w4 ⟨rfl, hb⟩
    have HK4 := hide ((HK3.out.below hb).al #[.int .i64 a, .int .i64 b, .int .i64 c, .int .i64 d] 23)
    obtain ⟨_, u0, u1, u2, u3, _⟩ := HK4.out.c4 1 rfl
    clear hb HK3 HOF
    go_wp2_with fail
    generalize hw5 : w4.alloc (.cells #[.int .i64 a, .int .i64 b, .int .i64 c, .int .i64 d] 23) = w5 at *
    clear hw5
    generalize w4.heap.size = Nq at *
    refine (HPR.out _).mono ?_
    rintro e w6 ⟨rfl, hb⟩
    have HK6 := hide (HK4.out.below hb)
    clear hb HK4 HPR u0 u1 u2 u3
    go_wp2_with fail
    refine (HPT'.out _ (by trivial) HK6.out.bl).mono ?_
    rintro e w7 ⟨rfl, hb⟩
    have HK7 := hide ((HK6.out.below hb).al #[.int .i64 a, .int .i64 b, .int .i64 c, .int .i64 d] 23)
    clear hb HK6 HPT'
    obtain ⟨_, u0, u1, u2, u3, _⟩ := HK7.out.c4 0 rfl
    obtain ⟨_, v0, v1, v2, v3, _⟩ := HK7.out.c4 1 rfl
    obtain ⟨_, x0, x1, x2, x3, _⟩ := HK7.out.c4 2 rfl
    have HK8 := hide (HK7.out.sub (L' := [(W.heap.size, #[.int .i64 a, .int .i64 b, .int .i64 c, .int .i64 d])]) (by intro x hx; rw [List.mem_singleton.1 hx]; simp))
    clear HK7
    go_wp2_with fail
    generalize hw5 : w7.alloc (.cells #[.int .i64 a, .int .i64 b, .int .i64 c, .int .i64 d] 23) = w8 at *
    have HK9 := HK8
    clear hw5 u0 u1 u2 u3 v0 v1 v2 v3 x0 x1 x2 x3 HK8
    refine (HPA.out _ HK9.out.bl).mono ?_
    rintro e w10 ⟨rfl, hb⟩
    have HK10' := hide (HK9.out.below hb)
    clear hb HK9 HPA
    obtain ⟨_, z0, z1, z2, z3, z4, z5, z6, z7⟩ := HK10'.out.c4 0 rfl
    have HK10 := hide (HK10'.out.set4 (by simp) (Nat.le_refl _) (.int .i64 d0) (.int .i64 d1) (.int .i64 d2) (.int .i64 d3))
    obtain ⟨_, u0, u1, u2, u3, _⟩ := HK10.out.c4 0 rfl
    clear HK10'
    go_wp2_with fail
    generalize hw5 : World.setCell _ _ _ = w11 at *
    clear hw5 z0 z1 z2 z3 z4 z5 z6 z7
    refine (HP2.out _).mono ?_
    rintro e w12 ⟨rfl, hb⟩
    have HB := hide (HK10.out.below hb).bl
    clear hb HK10 HP2
    rcases HEND.out with ⟨rfl, hr, hp⟩ | rfl
    · rw [hr, hp]
      simp only [if_true]
      clear hr hp HEND
      go_wp2
      go_ret
      exact ⟨rfl, HB.out⟩
    · generalize (if rightB ⟨d0, d1, d2, d3⟩ = true then (0 : Int) else 1) = F2
      clear HEND
      go_wp2
      go_ret
      exact ⟨rfl, HB.out⟩
open Go.ChangeAt Go.ChangeShapes Go.Maps Go.WideShapes
theorem cell_lt {w : World} {b o : Nat} {v : Value} (h : w.cell? ⟨b, o, none⟩ = some v) : b < w.heap.size := by
  unfold World.cell? at h
  by_cases hb : b < w.heap.size
  · exact hb
  · simp [Array.getElem?_eq_none (Nat.le_of_not_lt hb)] at h
theorem maxAt_shaped {W : World} (h : W.ShapedOpen Tryd.prog) : MaxAt W := by
  obtain ⟨m, e⟩ := Go.Proofs.cell_of_shapedOpen_int (g := 0) (zero := #[.int .i64 0]) (t := 3) h (of_decide_eq_true (by kernel_rfl)) (by kernel_rfl) rfl (by kernel_rfl) (by kernel_rfl) Tryd.underlying3
  exact ⟨cell_lt e, m, e⟩
noncomputable def lw (os : Os) : World := World.doorLaid Tryd.prog 34 os
theorem packetBack_met (os : Os) : laidMet Tryd.prog Rows.packetBackUptoRow.laid (((lw os).forCall (fun _ _ => 0) ⟨#[], #[.agg #[.int .i64 0, .int .i64 0, .int .i64 0, .int .i64 0], .string ⟨#[]⟩], []⟩).memory) :=
  laidMet_of_run' 8 (by kernel_rfl) (by kernel_rfl)
theorem packetBack_reads (os : Os) {H : Type} (enc : TypeId × Value → H) : ∃ places, DataW.whole enc Tryd.prog (((lw os).forCall (fun _ _ => 0) ⟨#[], #[.agg #[.int .i64 0, .int .i64 0, .int .i64 0, .int .i64 0], .string ⟨#[]⟩], []⟩).memory) Tryd.f4.params.toList Rows.packetBackSpec.vars false (show Array Value from #[.agg #[.int .i64 0, .int .i64 0, .int .i64 0, .int .i64 0], .string ⟨#[]⟩]).toList 8 = some ([.agg [.lit (.int .i64 0), .lit (.int .i64 0), .lit (.int .i64 0), .lit (.int .i64 0)], .lit (.string [])], [], places) :=
  ⟨[], by kernel_rfl⟩
theorem packetBack_lifted (os : Os) (started : os.Started) (H : Type) (enc : TypeId × Value → H) (F : Stop.Interp) :
    ReturnsInHanded {} Tryd.checked os 4 .any ((Rows.OpenSpec.upto Rows.packetBackSpec).preRow enc Tryd.prog Tryd.f4 Rows.packetBackUptoRow.domain false Rows.packetBackUptoRow.laid) (((Rows.OpenSpec.upto Rows.packetBackSpec).at F).post enc Tryd.prog Tryd.f4 false true false false) := by
  obtain ⟨places, hx⟩ := packetBack_reads os enc
  refine returnsInHanded_of_row (C := Tryd.checked) (s := Rows.OpenSpec.upto Rows.packetBackSpec) Tryd.own started (by kernel_rfl) Tryd.func4
    (witness_row_at (enc := enc) (C := Tryd.checked) false (lw os) #[.agg #[.int .i64 0, .int .i64 0, .int .i64 0, .int .i64 0], .string ⟨#[]⟩] rfl (by kernel_rfl) (by kernel_rfl) (by kernel_rfl)
      (OpenSpec.preRow_of_cond 8 hx (by kernel_rfl) (fun k hk => by cases hk; kernel_rfl) (by kernel_rfl) (packetBack_met os))) ?_
  intro W base args ds gs before hval0 hW _ hcond hsz _ hsh _
  refine law_contract (P := Tryd.prog) (f := 4) (fn := Tryd.f4) (s := Rows.packetBackSpec) (tb := 4) Tryd.laidOut (by kernel_rfl) rfl (by kernel_rfl) Tryd.underlying4 ?_ hW ?_
  · intro ds h
    match ds, h with
    | [_, _], _ => exact ⟨rfl, rfl, rfl⟩
  · intro p hg hA0 hlt
    have hval : ∀ (j : Nat) t v, Tryd.f4.params[j]? = some t → args[j]? = some v → Value.okWide Tryd.prog W .any base t v := hval0
    have hA : DataW.TrodAll enc Tryd.prog W 0 (fun _ => true) true Tryd.f4.params.toList args.toList ds p := hA0
    have hk := hcond _ rfl
    subst hg
    rw [Tryd.params4] at hA hval
    obtain ⟨v0, vs0, d0, ds0, p0, q0, hargs, rfl, rfl, h0, r0⟩ := args_cons hA
    obtain ⟨v1, vs1, d1, ds1, p1, q1, rfl, rfl, rfl, h1, r1⟩ := args_cons r0
    obtain ⟨rfl, rfl, rfl⟩ := args_nil r1
    obtain rfl : args = #[v0, v1] := arr_eq hargs
    obtain ⟨a0, b0, c0, e0, rfl, ha0, hb0, hc0, he0⟩ := open_packet (hval 0 _ v0 rfl rfl) h0
    obtain ⟨s1, rfl, rfl, _, hs1⟩ := Go.ChangeMaps.open_string Tryd.underlying9 (hval 1 _ v1 rfl rfl) h1
    have hl1 : s1.data.toList.length ≤ 1048576 := by
      have h := bulk_bound hk
      simp only [List.append_nil, Rows.uptoBulkAll, Rows.uptoBulk] at h
      omega
    exact packetBack_walk ⟨a0, b0, c0, e0⟩ s1.data.toList W hl1 (maxAt_shaped hsh)
theorem packetBack_said : Rows.PacketBackUptoSaid :=
  OpenClaim.holds_of_cond 4 Tryd.f4 rfl rfl rfl rfl rfl rfl rfl ⟨rfl, rfl, rfl, rfl, rfl⟩ rfl rfl rfl rfl rfl (by kernel_rfl) Tryd.func4 (by kernel_rfl)
    (of_decide_eq_true (by kernel_rfl)) (by unfold Func.isWrapper; first | (rw [if_pos (by decide +kernel)]; kernel_rfl) | (rw [if_neg (by decide +kernel)]; exact ⟨rfl, rfl⟩))
    (fun os started H enc _ F => by rw [OpenClaim.pre_eq_preRow]; exact packetBack_lifted os started H enc F)
/-- No parameter wants a stand-in; the program's own looks are off. -/
theorem packetBack_plain (f : FuncId) (fn : Func) (hf : Tryd.pinned.checked.prog.funcNamed "wireward/wirekeep.PacketBack" = some f) (hfn : Tryd.pinned.checked.prog.funcs[f]? = some fn) :
    false = Tryd.pinned.checked.prog.looks [] ∧ ∀ (j : Nat) t, fn.params[j]? = some t → Tryd.pinned.checked.prog.wantsStandIn t = false := by
  obtain rfl : f = 4 := Option.some.inj ((show Tryd.prog.funcNamed "wireward/wirekeep.PacketBack" = some 4 by kernel_rfl).symm.trans hf) |>.symm
  obtain rfl : fn = Tryd.f4 := (Option.some.inj (Tryd.func4.symm.trans hfn)).symm
  refine ⟨by kernel_rfl, fun j t ht => ?_⟩
  rw [Tryd.params4] at ht
  have hm := Array.mem_of_getElem? ht
  simp only [List.mem_toArray, List.mem_cons, List.not_mem_nil, or_false] at hm
  rcases hm with rfl | rfl
  · exact (show Tryd.prog.wantsStandIn 23 = false by kernel_rfl)
  · exact (show Tryd.prog.wantsStandIn 9 = false by kernel_rfl)
theorem packetBack_card : Rows.PacketBackUptoCardSaid :=
  Claim7.holds_tied_plain_at .later [] _ _ _ _ packetBack_said (fun _ h => by cases h) (by kernel_rfl) (fun _ h => by cases h) packetBackUpto_row_tie rfl ⟨rfl, rfl⟩ (by kernel_rfl) rfl packetBack_plain (by kernel_rfl)
end Go.Proofs.YtohbafigjpoijaaDoor
