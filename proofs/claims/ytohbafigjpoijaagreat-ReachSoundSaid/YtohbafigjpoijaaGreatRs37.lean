/- wireward/wirekeep.ReachSound: whatever is handed in, it returns true, and leaves the input as it reads. -/
import Derived.Test.YtohbafigjpoijaaGreatRs36
set_option linter.unusedVariables false
set_option linter.unusedSimpArgs false
set_option maxRecDepth 100000
set_option maxHeartbeats 16000000
namespace Go.Proofs.YtohbafigjpoijaaGreat
open Bdd Go.Maps Go.RowKit
theorem reachSound_walk (n : NetV) (A : Option Addr) (nl c : Nat) (l : List ActV) (W : World) (hn : NetAt W W.heap.size n) (hl : SlAt ActV.cells 8 W W.heap.size A nl l) (hlo : ∀ r ∈ l, r.ok) (hlc : nl ≤ c ∧ c ≤ maxLen) :
    Calls Tryz.prog 4 #[n.val, .slice A nl c] W fun e W' => e = .returned (.bool true) ∧ RowKit.Below W.heap.size W W' := by
  have HRO := hide (net_rules_ok hn)
  have HNA := hide (fun (w' : World) (hb : RowKit.Below W.heap.size W w') => show NetAt w' w'.heap.size n from hn.below hb hb.size)
  have HON := hide (net_on_below hn)
  have HL := hide (fun (w' : World) (hb : RowKit.Below W.heap.size W w') => hl.below hb hb.size)
  have HLN := hide hl.1
  have HLO := hide hlo
  have n3 : nl ≤ 9223372036854775807 := by have := hlc.1; have := hlc.2; unfold maxLen at *; omega
  have hc1 := hlc.1
  clear hn hl hlo hlc
  show Calls _ _ #[.agg #[.slice n.dA n.dn n.dc, .slice n.lA n.ln n.lc], _] W _
  go_enter Tryz.func4, Tryz.ntmps4
  go_wp2_with fail
  generalize hG : World.alloc W _ = W1
  have HX1 := hide (boxes1 hG).1
  clear hG
  refine (ready_walk W1).mono ?_
  rintro e w1 ⟨rfl, hb⟩
  have HX1b := hide (HX1.out.below hb)
  clear hb HX1
  go_wp2_with fail
  refine (running_walk w1).mono ?_
  rintro e w2 ⟨rfl, hb⟩
  have HX2 := hide (HX1b.out.below hb)
  clear hb HX1b
  obtain ⟨c0, c1⟩ : w2.cell? ⟨W.heap.size, 0, none⟩ = some (.slice n.dA n.dn n.dc) ∧ w2.cell? ⟨W.heap.size, 1, none⟩ = some (.slice n.lA n.ln n.lc) := ⟨(HX2.out.get 0 rfl).1 0 _ rfl, (HX2.out.get 0 rfl).1 1 _ rfl⟩
  by_cases hE : netE n.devs n.ls = 0
  case neg =>
    have HNW := hide (fun (w' : World) (h : NetAt w' w'.heap.size n) => worldNew_bad n w' h hE)
    obtain ⟨E, hEE⟩ : ∃ E, netE n.devs n.ls = E := ⟨_, rfl⟩
    rw [hEE] at HNW hE
    clear hEE
    have e1 : (E == 0) = false := by simpa using hE
    have e2 : (E != 0) = true := by simpa using hE
    clear hE
    go_wp2_with fail
    refine (HNW.out w2 (HNA.out _ HX2.out.bl)).mono ?_
    rintro e w7 ⟨rfl, hb⟩
    have HX7 := hide (HX2.out.below hb)
    clear hb HX2 c0 c1
    go_wp2
    go_ret
    exact ⟨ret_bool (by simp), HX7.out.bl⟩
  have HE := hide hE
  have HDL := hide (show n.devs.length ≤ 10 from (netE_ok hE).dl)
  have HNW := hide (fun (w' : World) (hb : RowKit.Below W.heap.size W w') => worldNew_S n W w' hb.size (HNA.out _ hb) HON.out HE.out)
  clear hE
  go_wp2_with fail
  refine (HNW.out w2 HX2.out.bl).mono ?_
  clear c0 c1 HNW
  rintro e w7 ⟨gw, F, rfl, hw, hb, hF⟩
  have HP := hide (show L1 W [(W.heap.size, #[.slice n.dA n.dn n.dc, .slice n.lA n.ln n.lc])] F gw n.devs n.ls (stS n.devs n.ls l 0) 0 w7 from ⟨HX2.out.below hb, hw, fun x hx e => by
    obtain rfl := List.mem_singleton.1 hx
    have h1 := hF _ e
    have h2 := (HX2.out.bx _ (List.mem_of_getElem? (i := 0) rfl)).2
    simp only at h1 h2
    omega⟩)
  clear hw hb hF HX2
  by_cases hl80 : 80 < nl
  case pos =>
    have h1 : (80 : Int) < (nl : Int) := by omega
    go_wp2
    go_ret
    exact ⟨ret_bool (by simp), HP.out.box.bl⟩
  have d1 : decide ((80 : Int) < (nl : Int)) = false := by simp; omega
  obtain ⟨c0, c1⟩ : w7.cell? ⟨W.heap.size, 0, none⟩ = some (.slice n.dA n.dn n.dc) ∧ w7.cell? ⟨W.heap.size, 1, none⟩ = some (.slice n.lA n.ln n.lc) := ⟨(HP.out.box.get 0 rfl).1 0 _ rfl, (HP.out.box.get 0 rfl).1 1 _ rfl⟩
  go_wp2_with fail
  clear d1 c0 c1
  have hl81 : nl ≤ 80 := by omega
  clear hl80
  refine (reachNew_good n 40000 w7 (HNA.out _ HP.out.box.bl) HE.out (by omega) (by omega) AllT (firstT _ _ _) (fun _ => nextT _ _ _ _)).mono ?_
  rintro e wR ⟨hb, hres⟩
  have HPR := hide (HP.out.below hb)
  have hfo := HP.out.a.fo
  have hsz7 := hb.size
  clear hb
  rcases hres with ⟨NR, K, rfl, hlo⟩ | ⟨A6, rfl, _⟩
  case inr =>
    clear HP hfo
    go_wp2
    go_ret
    exact ⟨ret_bool (by simp), HPR.out.box.bl⟩
  have HRL := hide hlo
  have HLA := hide (show Last n.devs n.ls K from ⟨HE.out, HRO.out, hlo.fix⟩)
  have HRC := hide (show Rch w7.heap.size wR wR F from ⟨Nat.le_refl _, fun _ _ _ => rfl, fun j e => .inl (hfo j e).2⟩)
  clear hlo hfo HP hsz7
  generalize w7.heap.size = Lo at *
  go_wp2_with fail
  -- LOOP1
  go_loopw [41] (fun i wr => ∃ (k : Nat) (F : Nat → Prop), k ≤ nl ∧ i = .int .i64 k ∧ Hid (L1 W [(W.heap.size, #[.slice n.dA n.dn n.dc, .slice n.lA n.ln n.lc])] F gw n.devs n.ls (stS n.devs n.ls l k) k wr) ∧ Hid (Rch Lo wR wr F)) (fun i _ => nl - (intOf i).toNat)
  case atStart => exact ⟨0, F, Nat.zero_le _, rfl, HPR, HRC⟩
  case round =>
    clear HPR HRC
    obtain ⟨k, F, hk, rfl, HP, HR⟩ := hrel
    by_cases hlt : k < nl
    case pos =>
      obtain ⟨x, hx⟩ : ∃ x, l[k]? = some x := ⟨_, List.getElem?_eq_getElem (by have := HLN.out; omega)⟩
      have hsl := HL.out _ HP.out.box.bl
      obtain ⟨bA, oA, rfl, hbB, _⟩ := hsl.2 (by omega)
      obtain ⟨q0, q1, q2, q3, q4, q5, q6, q7⟩ := act_cells hsl hx
      have HXK := hide (HLO.out x (List.mem_of_getElem? hx))
      have HST := hide (stS_succ (ds := n.devs) (ls := n.ls) hx)
      clear hx hsl hbB
      go_wp2_with fail
      have HG := hide (HP.out.al #[.int .i64 x.kind, .int .i64 x.dev, .int .i64 x.port, .int .i64 x.p.src, .int .i64 x.p.dst, .int .i64 x.p.sport, .int .i64 x.p.dport, .int .i64 x.ch] 56)
      have HR8 := hide (HR.out.below (below_alloc2 wr (.cells #[.int .i64 x.kind, .int .i64 x.dev, .int .i64 x.port, .int .i64 x.p.src, .int .i64 x.p.dst, .int .i64 x.p.sport, .int .i64 x.p.dport, .int .i64 x.ch] 56)))
      obtain ⟨N, hN⟩ : ∃ N, wr.heap.size = N := ⟨_, rfl⟩
      rw [hN] at HG
      try rw [hN]
      clear hN HP HR q0 q1 q2 q3 q4 q5 q6 q7
      generalize World.alloc wr _ = w8 at *
      obtain ⟨Z, hZ⟩ : ∃ Z, stS n.devs n.ls l k = Z := ⟨_, rfl⟩
      have HGD := hide (show GoodW n.devs Z from by rw [← hZ]; exact good_at HE.out l k)
      obtain ⟨R, hR⟩ : ∃ R, doS n.devs n.ls Z x = R := ⟨_, rfl⟩
      rw [hZ] at HG HST
      rw [hR] at HST
      obtain ⟨R1, R2⟩ := R
      clear hZ
      have HDO := hide (HG.out.go HE.out HGD.out x HXK.out (by omega) hR)
      refine HDO.out.mono ?_
      clear HDO hR
      rintro e w10 ⟨rfl, F', hg, hn, hF⟩
      have HR10 := hide (HR8.out.step hn hF)
      have HFIN := hide (show L1 W [(W.heap.size, #[.slice n.dA n.dn n.dc, .slice n.lA n.ln n.lc])] F' gw n.devs n.ls (stS n.devs n.ls l (k + 1)) (k + 1) w10 from by rw [HST.out]; exact hg.less)
      clear hg hn hF HG HR8 HST HGD HXK
      go_wp2_with fail
      go_roundw
      case rel => exact ⟨k + 1, F', by omega, by go_num, HFIN, HR10⟩
      case measure => simp [intOf]; omega
    case neg =>
      obtain rfl : k = nl := by omega
      clear hlt hk
      go_wp2_with fail
      refine (seen_S HP.out.a (by omega)).mono ?_
      rintro e w11 ⟨A1, cc1, rfl, hcc1, hown1, hb1⟩
      have hzl : (stS n.devs n.ls l k).S.length ≤ k := HP.out.a.lk
      have HS0 := hide (own_sl ArrV.len hown1 rfl)
      have HB0 := hide (HP.out.box.bl.trans (hb1.mono HP.out.box.bl.size))
      have HR0 := hide (HR.out.below hb1)
      have HIN := hide (seen_in HLA.out l k)
      have HGD := hide (good_at (ds := n.devs) (ls := n.ls) HE.out l k)
      have hcm := own_cap hown1
      clear hown1 hb1 HP HR
      generalize stS n.devs n.ls l k = Z at *
      obtain ⟨m, hm⟩ : ∃ m, Z.S.length = m := ⟨_, rfl⟩
      rw [hm] at hzl HS0 hcc1
      simp only [hm]
      have HM := hide hm
      clear hm
      have m3 : m ≤ 9223372036854775807 := by omega
      go_wp2_with fail
      -- LOOP2
      go_loopw [52] (fun i wr => ∃ (j : Nat), j ≤ m ∧ i = .int .i64 j ∧ Hid (RowKit.Below W.heap.size W wr) ∧ Hid (SlAt ArrV.cells 6 wr wr.heap.size A1 m Z.S) ∧ Hid (Rch Lo wR wr F)) (fun i _ => m - (intOf i).toNat)
      case atStart => exact ⟨0, Nat.zero_le _, rfl, HB0, HS0, HR0⟩
      case round =>
        clear HB0 HS0 HR0
        obtain ⟨j, hj, rfl, HB, HS, HR⟩ := hrel
        by_cases hlt : j < m
        case pos =>
          obtain ⟨x, hx⟩ : ∃ x, Z.S[j]? = some x := ⟨_, List.getElem?_eq_getElem (by have := HM.out; omega)⟩
          have hsl := HS.out
          obtain ⟨bA, oA, rfl, hbB, _⟩ := hsl.2 (by omega)
          obtain ⟨q0, q1, q2, q3, q4, q5⟩ := arr_get hsl hx
          have hmem := List.mem_of_getElem? hx
          have hpo := place_ok HDL.out (HGD.out.s x hmem).2
          have hin := (HIN.out.s x hmem).round
          clear hx hsl hbB hmem
          go_wp2_with fail
          have hba := below_alloc2 wr (.cells #[.int .i64 x.d, .int .i64 x.y, .int .i64 x.p.src, .int .i64 x.p.dst, .int .i64 x.p.sport, .int .i64 x.p.dport] 61)
          have HRW := hide (reachRound_walk NR n.devs n.ls K (x.d, x.y) hpo x.p _ ((HR.out.below hba).at_ HRL.out))
          have HB8 := hide (HB.out.trans (hba.mono HB.out.size))
          have HS8 := hide (HS.out.below hba hba.size)
          have HR8 := hide (HR.out.below hba)
          clear hba HB HS HR q0 q1 q2 q3 q4 q5 hpo
          generalize World.alloc wr _ = w8 at *
          obtain ⟨Q, hQ⟩ : ∃ Q, roundP n.devs n.ls K (x.d, x.y) x.p = Q := ⟨_, rfl⟩
          rw [hQ] at HRW hin
          clear hQ
          refine HRW.out.mono ?_
          rintro e w9 ⟨rfl, hb9⟩
          have HB9 := hide (HB8.out.trans (hb9.mono HB8.out.size))
          have HS9 := hide (HS8.out.below hb9 hb9.size)
          have HR9 := hide (HR8.out.below hb9)
          clear hb9 HRW HB8 HS8 HR8
          have hq0 : decide (Q < 0) = false := by simp; omega
          go_wp2_with fail
          go_roundw
          case rel => exact ⟨j + 1, by omega, by go_num, HB9, HS9, HR9⟩
          case measure => simp [intOf]; omega
        case neg =>
          go_wp2
          go_ret
          exact ⟨rfl, HB.out⟩
end Go.Proofs.YtohbafigjpoijaaGreat
namespace Go.Proofs.YtohbafigjpoijaaGreat
open Go.ChangeAt Go.ChangeShapes Go.RowKit Go.WideShapes
section
variable {H : Type} {enc : TypeId × Value → H} {w : World} {base : Nat} {spare : Nat → Bool} {held : Bool} {r : Reach} {b0 : Nat}
theorem Tryz.cellsEvent8 : Tryz.prog.cellsOf 56 = 8 := by kernel_rfl
theorem read_event {n : Nat} {cs : List Value} {y : DataW H × List MemPlace} (h : DataW.trod enc Tryz.prog w base spare held n 56 cs = some y) : ∃ x : ActV, x.ok ∧ cs = x.cells := by
  obtain ⟨xs, n', _, _, hlen, hxl, hf⟩ := DataW.trod_struct Tryz.underlying56 h
  rw [Tryz.cellsEvent8] at hlen
  match cs, hlen with
  | [c0, c1, c2, c3, c4, c5, c6, c7], _ =>
    have h0 := hf 0 _ rfl
    have h1 := hf 1 _ rfl
    have h2 := hf 2 _ rfl
    have h3 := hf 3 _ rfl
    have h4 := hf 4 _ rfl
    obtain ⟨y0, e0⟩ := get_some (xs := xs) (i := 0) (by rw [hxl]; decide)
    obtain ⟨y1, e1⟩ := get_some (xs := xs) (i := 1) (by rw [hxl]; decide)
    obtain ⟨y2, e2⟩ := get_some (xs := xs) (i := 2) (by rw [hxl]; decide)
    obtain ⟨y3, e3⟩ := get_some (xs := xs) (i := 3) (by rw [hxl]; decide)
    obtain ⟨y4, e4⟩ := get_some (xs := xs) (i := 4) (by rw [hxl]; decide)
    rw [e0] at h0
    rw [e1] at h1
    rw [e2] at h2
    rw [e3] at h3
    rw [e4] at h4
    simp [cellsI1, Tryz.cellsPacket4] at h0 h1 h2 h3 h4
    obtain ⟨a, rfl, ha⟩ := trod_i64 h0
    obtain ⟨b, rfl, hb⟩ := trod_i64 h1
    obtain ⟨c, rfl, hc⟩ := trod_i64 h2
    obtain ⟨q, hq, hm2⟩ := read_packet h3
    obtain ⟨d, rfl, hd⟩ := trod_i64 h4
    simp only [P4.cells, List.cons.injEq, and_true] at hm2
    obtain ⟨rfl, rfl, rfl, rfl⟩ := hm2
    exact ⟨⟨a, b, c, q, d⟩, ⟨ha, hb, hc, hq, hd⟩, rfl⟩
theorem open_events {v : Value} {d : DataW H} {p : List MemPlace} (hv : Value.okWide Tryz.prog w r b0 50 v) (h : DataW.Trod enc Tryz.prog w base spare held 50 v d p) :
    ∃ (A : Option Addr) (n c : Nat) (l : List ActV), v = .slice A n c ∧ n ≤ c ∧ c ≤ maxLen ∧ SlAt ActV.cells 8 w w.heap.size A n l ∧ (∀ r ∈ l, r.ok) ∧ (n = 0 ∨ ∃ elems sp, d = .slice elems sp ∧ elems.length = n) :=
  open_elems ActV.cells ActV.ok 8 Tryz.underlying50 Tryz.cellsEvent8 (by omega) ActV.len (fun _ _ _ h => read_event h) hv h
end
open Go.Maps
theorem reachSound_lifted (os : Os) (started : os.Started) (H : Type) (enc : TypeId × Value → H) :
    ReturnsInHanded {} Tryz.checked os 4 .any (Rows.reachSoundSpec.pre6 enc Tryz.prog Tryz.f4 Rows.reachSoundRow.domain false) (Rows.reachSoundSpec.post enc Tryz.prog Tryz.f4 false true false false) :=
  law_lifted (C := Tryz.checked) (tb := 4) Tryz.own started (by kernel_rfl) Tryz.func4 Tryz.laidOut (by kernel_rfl) rfl (by kernel_rfl) Tryz.underlying4
    (fun ds h => by
      match ds, h with
      | [_, _], _ => exact ⟨rfl, rfl, rfl⟩)
    (ChangeSpec.witness6 (enc := enc) (C := Tryz.checked) false ⟨#[], #[.agg #[.slice none 0 0, .slice none 0 0], .slice none 0 0], []⟩ 8 (by kernel_rfl) (by kernel_rfl) (by kernel_rfl) (by kernel_rfl))
    (fun W base args ds p hval0 hA0 hlt hsz => by
      have hval : ∀ (j : Nat) t v, Tryz.f4.params[j]? = some t → args[j]? = some v → Value.okWide Tryz.prog W .any base t v := hval0
      have hA : DataW.TrodAll enc Tryz.prog W 0 (fun _ => true) true Tryz.f4.params.toList args.toList ds p := hA0
      rw [Tryz.params4] at hA hval
      obtain ⟨v0, vs0, d0, ds0, p0, q0, hargs, rfl, rfl, h0, r0⟩ := args_cons hA
      obtain ⟨v1, vs1, d1, ds1, p1, q1, rfl, rfl, rfl, h1, r1⟩ := args_cons r0
      obtain ⟨rfl, rfl, rfl⟩ := args_nil r1
      obtain rfl : args = #[v0, v1] := arr_eq hargs
      obtain ⟨n0, hn0, rfl⟩ := open_net (hval 0 _ v0 rfl rfl) h0
      obtain ⟨A1, n1, c1, l1, rfl, hnc1, hcm1, hl1, hok1, _⟩ := open_events (hval 1 _ v1 rfl rfl) h1
      exact reachSound_walk n0 A1 n1 c1 l1 W hn0 hl1 hok1 ⟨hnc1, hcm1⟩)
theorem reachSound_holds : Rows.ReachSoundSaid :=
  OpenClaim.holds_of_wide 4 Tryz.f4 rfl rfl rfl rfl rfl rfl rfl ⟨rfl, rfl, rfl, rfl, rfl⟩ rfl rfl rfl rfl rfl (by kernel_rfl) Tryz.func4 (by kernel_rfl)
    (of_decide_eq_true (by kernel_rfl)) (by unfold Func.isWrapper; first | (rw [if_pos (by decide +kernel)]; kernel_rfl) | (rw [if_neg (by decide +kernel)]; exact ⟨rfl, rfl⟩))
    (fun os started H enc _ => reachSound_lifted os started H enc)
end Go.Proofs.YtohbafigjpoijaaGreat
