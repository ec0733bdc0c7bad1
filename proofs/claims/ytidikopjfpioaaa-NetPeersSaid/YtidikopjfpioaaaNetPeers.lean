/- NetPeers: the other end of the other end is where one was. No condition. -/
import Derived.Test.YtidikopjfpioaaaPeer
import Derived.Test.YtidikopjfpioaaaG1
set_option linter.unusedVariables false
set_option linter.unusedSimpArgs false
namespace Go.Proofs.Ytidikopjfpioaaa
open Go.ChangeShapes Go.WideShapes Go.ChangeAt Go.RowKit

/-! ### as many places have a peer as links have ends -/
def cntK (ls : List LinkV) (i : Nat) : Nat → Nat
  | 0 => 0
  | k + 1 => cntK ls i k + (if (peerF ls ((i : Int), (k : Int))).isSome then 1 else 0)
def portsN (ds : List Dev) (i : Nat) : Nat := (portsF (kindAt ds (i : Int))).toNat
def cntD (ds : List Dev) (ls : List LinkV) : Nat → Nat
  | 0 => 0
  | i + 1 => cntD ds ls i + cntK ls i (portsN ds i)

theorem portsF_range (k : Int) : 0 ≤ portsF k ∧ portsF k ≤ 4 := by
  unfold portsF
  repeat' split
  all_goals omega

def rowPl (i k : Nat) : List Pl := (List.range k).map fun (j : Nat) => ((i : Int), (j : Int))
def allPl (ds : List Dev) (n : Nat) : List Pl := (List.range n).flatMap fun (i : Nat) => rowPl i (portsN ds i)
theorem cntK_eq (ls : List LinkV) (i k : Nat) : cntK ls i k = (rowPl i k).countP fun x => (peerF ls x).isSome := by
  induction k with
  | zero => rfl
  | succ k ih =>
    rw [cntK, ih, rowPl, rowPl, List.range_succ, List.map_append, List.countP_append]
    simp [List.countP_cons]
theorem cntD_eq (ds : List Dev) (ls : List LinkV) (n : Nat) : cntD ds ls n = (allPl ds n).countP fun x => (peerF ls x).isSome := by
  induction n with
  | zero => rfl
  | succ n ih => rw [cntD, ih, cntK_eq, allPl, allPl, List.range_succ, List.flatMap_append, List.countP_append]; simp
theorem mem_allPl {ds : List Dev} {n : Nat} {x : Pl} : x ∈ allPl ds n ↔ (0 ≤ x.1 ∧ x.1 < n) ∧ 0 ≤ x.2 ∧ x.2 < portsF (kindAt ds x.1) := by
  obtain ⟨a, b⟩ := x
  simp only [allPl, rowPl, portsN, List.mem_flatMap, List.mem_range, List.mem_map, Prod.mk.injEq]
  constructor
  · rintro ⟨i, hi, j, hj, rfl, rfl⟩
    have := portsF_range (kindAt ds (i : Int))
    omega
  · rintro ⟨⟨h1, h2⟩, h3, h4⟩
    refine ⟨a.toNat, by omega, b.toNat, ?_, by omega, by omega⟩
    rw [show ((a.toNat : Nat) : Int) = a by omega]
    omega
theorem nodup_rowPl (i k : Nat) : (rowPl i k).Nodup := by
  induction k with
  | zero => simp [rowPl]
  | succ k ih =>
    rw [rowPl, List.range_succ, List.map_append, List.nodup_append]
    refine ⟨ih, by simp, ?_⟩
    intro a ha b hb e
    subst e
    simp only [List.map_cons, List.map_nil, List.mem_cons, List.not_mem_nil, or_false, List.mem_map, List.mem_range] at ha hb
    obtain ⟨j, hj, rfl⟩ := ha
    simp only [Prod.mk.injEq, true_and, Int.natCast_inj] at hb
    omega
theorem nodup_allPl (ds : List Dev) (n : Nat) : (allPl ds n).Nodup := by
  induction n with
  | zero => simp [allPl]
  | succ n ih =>
    rw [allPl, List.range_succ, List.flatMap_append, List.nodup_append]
    refine ⟨ih, by simpa using nodup_rowPl n _, ?_⟩
    intro a ha b hb e
    subst e
    have h1 : a ∈ allPl ds n := ha
    rw [mem_allPl] at h1
    simp only [List.flatMap_cons, List.flatMap_nil, List.append_nil, rowPl, List.mem_map] at hb
    obtain ⟨j, _, rfl⟩ := hb
    have := h1.1.2
    simp only [] at this
    omega
theorem cntD_all {ds : List Dev} {ls : List LinkV} (h : NetOk ds ls) : cntD ds ls ds.length = 2 * ls.length := by
  rw [cntD_eq, ← endsOf_len, List.countP_eq_length_filter]
  apply Nat.le_antisymm
  · refine length_le_of_subset' _ _ ((nodup_allPl ds ds.length).filter _) (fun x hx => ?_)
    obtain ⟨h1, h2⟩ := List.mem_filter.1 hx
    obtain ⟨y, hy⟩ := Option.isSome_iff_exists.1 h2
    exact (peerF_some h.nd hy).1
  · refine length_le_of_subset' _ _ h.nd (fun x hx => ?_)
    obtain ⟨y, hy, _⟩ := peerF_back h.nd hx
    rw [List.mem_filter, mem_allPl]
    exact ⟨placeB_iff.1 (h.pl x hx), by rw [hy]; rfl⟩
theorem cntK_le (ls : List LinkV) (i k : Nat) : cntK ls i k ≤ k := by
  induction k with
  | zero => exact Nat.le_refl _
  | succ k ih => simp only [cntK]; split <;> omega
theorem portsN_le (ds : List Dev) (i : Nat) : portsN ds i ≤ 4 := by
  have := portsF_range (kindAt ds (i : Int))
  unfold portsN
  omega
theorem cntD_le (ds : List Dev) (ls : List LinkV) (n : Nat) : cntD ds ls n ≤ n * 4 := by
  induction n with
  | zero => exact Nat.le_refl _
  | succ n ih =>
    have h1 := cntK_le ls n (portsN ds n)
    have h2 := portsN_le ds n
    simp only [cntD]
    omega

set_option maxRecDepth 100000 in
set_option maxHeartbeats 16000000 in
theorem netPeers_walk (n : NetV) (W : World) (hn : NetAt W W.heap.size n) :
    Calls Try.prog 3 #[n.val] W fun e W' => e = .returned (.bool true) ∧ RowKit.Below W.heap.size W W' := by
  obtain ⟨dA, dn, dc, ds, lA, ln, lc, ls⟩ := n
  have HCW := hide (fun (w : World) h => netCheck_walk ⟨dA, dn, dc, ds, lA, ln, lc, ls⟩ w h)
  have HDL := hide (show ds.length = dn from hn.dlen)
  have HLL := hide (show ls.length = ln from hn.llen)
  have HM := hide (And.intro hn.cd (And.intro hn.cl (And.intro hn.cd.2 hn.cl.2)))
  have HNN := hide hn
  simp only [NetV.val] at *
  clear hn
  have HI := hide (And.intro HM.out.1.1 (And.intro HM.out.2.1.1 (And.intro HM.out.2.2.1 HM.out.2.2.2)))
  clear HM
  go_enter Try.func3, Try.ntmps3
  go_wp2_with fail
  generalize hG : World.alloc (World.alloc (World.alloc (World.alloc W _) _) _) _ = wL
  have HB0 := hide (show RowKit.Below W.heap.size W wL from by rw [← hG]; exact (((((RowKit.Below.refl _ _).alloc (Nat.le_refl _) _).alloc (by simp) _).alloc (by simp; omega) _).alloc (by simp; omega) _))
  have HSZ := hide (show wL.heap.size = W.heap.size + 4 from by rw [← hG]; simp)
  have HX0 := hide (show wL.cell? ⟨W.heap.size, 0, none⟩ = some (.slice dA dn dc) ∧ wL.cell? ⟨W.heap.size, 1, none⟩ = some (.slice lA ln lc) from by
    rw [← hG]
    have hb := fun (w : World) o2 o3 o4 (h : W.heap.size + 1 ≤ w.heap.size) => show RowKit.Below (W.heap.size + 1) w (((w.alloc o2).alloc o3).alloc o4) from (((RowKit.Below.refl _ _).alloc h _).alloc (by simp; omega) _).alloc (by simp; omega) _
    exact ⟨cell_new W _ _ rfl (hb _ _ _ _ (by simp)) 0 _ rfl, cell_new W _ _ rfl (hb _ _ _ _ (by simp)) 1 _ rfl⟩)
  have HL0 := hide (show SlAt LinkV.cells 4 wL wL.heap.size (some ⟨W.heap.size + 1 + 1, 0, none⟩) 1 [⟨0, 0, 1, 0⟩] from ⟨rfl, fun _ => ⟨_, _, rfl, by rw [HSZ.out]; omega, fun k r hr j v hv => by
    obtain rfl : k = 0 := by have := (List.getElem?_eq_some_iff.1 hr).1; simp at this; exact this
    cases hr
    rw [← hG]
    exact cell_new ((W.alloc _).alloc _) _ _ (by simp) ((RowKit.Below.refl _ _).alloc (by simp) _) _ _ (by simpa [LinkV.cells] using hv)⟩⟩)
  clear hG
  have HP0 := hide (peer_any (some ⟨W.heap.size + 1, 0, none⟩) 2 2 (some ⟨W.heap.size + 1 + 1, 0, none⟩) 1 1 [⟨0, 0, 1, 0⟩] 1 0 wL (by omega) HL0.out)
  rw [show peerF [(⟨0, 0, 1, 0⟩ : LinkV)] (1, 0) = some (0, 0) from by simp [peerF, eqP, LinkV.e1, LinkV.e2]] at HP0
  simp only [peerV] at HP0
  have HQ := hide (fun (w' : World) (hb : RowKit.Below wL.heap.size wL w') => show (w'.cell? ⟨W.heap.size, 0, none⟩ = some (.slice dA dn dc) ∧ w'.cell? ⟨W.heap.size, 1, none⟩ = some (.slice lA ln lc)) ∧ NetAt w' w'.heap.size ⟨dA, dn, dc, ds, lA, ln, lc, ls⟩ ∧ RowKit.Below W.heap.size W w' from by
    have h1 := HB0.out.trans (hb.mono (by rw [HSZ.out]; omega))
    have e := fun o => hb.cell (p := ⟨W.heap.size, o, none⟩) (by rw [HSZ.out]; show W.heap.size < _; omega)
    exact ⟨⟨(e 0).trans HX0.out.1, (e 1).trans HX0.out.2⟩, HNN.out.below h1 h1.size, h1⟩)
  refine HP0.out.mono ?_
  clear HP0 HL0 HX0
  rintro e w1 ⟨rfl, hb⟩
  have HB1 := hide hb
  clear hb
  obtain ⟨⟨x0, x1⟩, hna, _⟩ := HQ.out w1 HB1.out
  have HPL := hide (fun (o : Obj) => show RowKit.Below wL.heap.size wL (w1.alloc o) from HB1.out.alloc HB1.out.size o)
  have x2 := fun (o : Obj) => (HQ.out _ (HPL.out o)).1.1
  have x3 := fun (o : Obj) => (HQ.out _ (HPL.out o)).1.2
  have HCC := hide (fun (o : Obj) => HCW.out _ (HQ.out _ (HPL.out o)).2.1)
  obtain ⟨E, hE⟩ : ∃ E, netE (NetV.devs ⟨dA, dn, dc, ds, lA, ln, lc, ls⟩) ls = E := ⟨_, rfl⟩
  simp only [hE] at HCC
  have HE := hide hE
  clear hE hna x0 x1
  go_wp2_with fail
  refine (HCC.out _).mono ?_
  clear HCC HCW x2 x3
  rintro e w2 ⟨rfl, hb⟩
  have HB2 := hide ((HPL.out _).trans (hb.mono (HPL.out _).size))
  clear hb HPL HB1
  by_cases h0 : E = 0
  case neg =>
    have d1 : (E != 0) = true := by simpa using h0
    have d2 : (E == 0) = false := by simpa using h0
    clear h0
    go_wp2
    go_ret
    exact ⟨rfl, (HQ.out _ HB2.out).2.2⟩
  subst h0
  have HOKN := hide (netE_ok HE.out)
  clear HE
  have hd10 : dn ≤ 10 := by have := HOKN.out.dl; have := HDL.out; simp only [NetV.devs, List.length_map] at *; omega
  have hl15 : ln ≤ 15 := by have := HOKN.out.ll; have := HLL.out; omega
  obtain ⟨⟨x0, x1⟩, _, _⟩ := HQ.out w2 HB2.out
  have HDV := hide (show (NetV.devs ⟨dA, dn, dc, ds, lA, ln, lc, ls⟩) = ds.map DevV.dev from rfl)
  generalize NetV.devs _ = DS at *
  go_wp2
  clear x0 x1
  go_loopw [6, 40] (fun u i wr => ∃ k : Nat, k ≤ dn ∧ i = .int .i64 k ∧ u = .int .i64 (cntD DS ls k) ∧ Hid (RowKit.Below wL.heap.size wL wr)) (fun _ i _ => dn - (intOf i).toNat)
  case atStart => exact ⟨0, Nat.zero_le _, rfl, rfl, HB2⟩
  case round =>
    clear HB2
    obtain ⟨k, hk, rfl, rfl, HB⟩ := hrel
    have hc1 := cntD_le DS ls k
    by_cases hlt : k < dn
    · obtain ⟨⟨x0, x1⟩, hna, _⟩ := HQ.out wr HB.out
      obtain ⟨r, hr⟩ : ∃ r, ds[k]? = some r := ⟨_, List.getElem?_eq_getElem (by have := HDL.out; omega)⟩
      obtain ⟨b, o, rfl, _, _⟩ := hna.ds.2 (by show 0 < dn; omega)
      obtain ⟨hbB, q0, q1, q2, q3, q4, q5, q6⟩ := dev_get hna.ds hr
      have hpn := portsN_le DS k
      have HPN := hide (show portsF r.kind = (portsN DS k : Int) from by
        have h1 : kindAt DS (k : Int) = r.kind := by rw [HDV.out]; simp [kindAt, hr, DevV.dev]
        have := portsF_range r.kind
        unfold portsN
        rw [h1]
        omega)
      have HCS := hide (show cntD DS ls (k + 1) = cntD DS ls k + cntK ls k (portsN DS k) from rfl)
      obtain ⟨nm, kd, ad, pl, bA, bn, bc, bs, rA, rn, rc, rs, tA, tn, tc, ts⟩ := r
      have HPO := hide (fun w => ports_walk kd w)
      simp only [HPN.out] at HPO
      clear HPN hr hna
      generalize portsN DS k = P at *
      generalize cntD DS ls k = C at *
      go_wp2_with fail
      generalize hG : World.alloc wr _ = wD
      have HBD := hide (show RowKit.Below wL.heap.size wL wD from by rw [← hG]; exact HB.out.alloc HB.out.size _)
      clear hG q0 q1 q2 q3 q4 q5 q6 x0 x1 HB
      refine (HPO.out _).mono ?_
      rintro e w' ⟨rfl, rfl⟩
      go_wp2
      go_loopw [6, 48] (fun u i wr => ∃ j : Nat, j ≤ P ∧ i = .int .i64 j ∧ u = .int .i64 ((C + cntK ls k j : Nat) : Int) ∧ Hid (RowKit.Below wL.heap.size wL wr)) (fun _ i _ => P - (intOf i).toNat)
      case atStart => exact ⟨0, Nat.zero_le _, rfl, rfl, HBD⟩
      case round =>
        clear HBD
        obtain ⟨j, hj, rfl, rfl, HB⟩ := hrel
        have hck := cntK_le ls k j
        by_cases hjP : j < P
        · obtain ⟨M, hM⟩ : ∃ M, wr.heap.size = M := ⟨_, rfl⟩
          have HB1 := hide (fun o => show RowKit.Below wL.heap.size wL (wr.alloc o) from HB.out.alloc HB.out.size o)
          have hML : wL.heap.size ≤ M := by rw [← hM]; exact HB.out.size
          have HMB := hide (fun (w' : World) (hb : RowKit.Below (M + 1) (wr.alloc (.cells #[.int .i64 (k : Int), .int .i64 (j : Int)] 34)) w') => show (w'.cell? ⟨M, 0, none⟩ = some (.int .i64 (k : Int)) ∧ w'.cell? ⟨M, 1, none⟩ = some (.int .i64 (j : Int))) ∧ RowKit.Below wL.heap.size wL w' from
            ⟨⟨cell_new wr _ _ hM hb 0 _ rfl, cell_new wr _ _ hM hb 1 _ rfl⟩, (HB1.out _).trans (hb.mono (by omega))⟩)
          have hs1 : (wr.alloc (.cells #[.int .i64 (k : Int), .int .i64 (j : Int)] 34)).heap.size = M + 1 := by simp [hM]
          have HS1 := hide hs1
          have x0 := fun o => (HQ.out _ (HB1.out o)).1.1
          have x1 := fun o => (HQ.out _ (HB1.out o)).1.2
          clear hs1 HB
          go_wp2_with fail
          have hs1 := HS1.out
          have HMC := HMB.out
          clear x0 x1 HB1 HS1 HMB hM
          generalize World.alloc wr _ = wP at *
          have HMB := hide HMC
          have HSP := hide hs1
          clear hs1 HMC
          have hbP := (HMB.out wP (RowKit.Below.refl _ _)).2
          have HPE := hide (peer_any (some ⟨b, o, none⟩) dn dc lA ln lc ls (k : Int) (j : Int) wP (by omega) (HQ.out wP hbP).2.1.ls)
          clear hbP
          refine HPE.out.mono ?_
          clear HPE
          rintro e w3 ⟨rfl, hb⟩
          have HB3 := hide (HSP.out ▸ hb)
          have hM3 : M < w3.heap.size := by have := hb.size; have := HSP.out; omega
          clear hb
          have HCJ := hide (show cntK ls k (j + 1) = cntK ls k j + (if (peerF ls ((k : Int), (j : Int))).isSome then 1 else 0) from rfl)
          cases hp : peerF ls ((k : Int), (j : Int)) with
          | none =>
            have HCN := hide (show cntK ls k (j + 1) = cntK ls k j from by rw [HCJ.out, hp]; rfl)
            have HBN := hide (fun o => show RowKit.Below wL.heap.size wL (w3.alloc o) from (HMB.out w3 HB3.out).2.alloc (HMB.out w3 HB3.out).2.size o)
            simp only [peerV]
            clear hp HCJ
            go_wp2
            go_roundw
            case rel => exact ⟨j + 1, by omega, by go_num, by rw [HCN.out], HBN.out _⟩
            case measure => simp [intOf]; omega
          | some y =>
            obtain ⟨y1, y2⟩ := y
            have HCN := hide (show cntK ls k (j + 1) = cntK ls k j + 1 from by rw [HCJ.out, hp]; rfl)
            have HBK := hide (peerF_some HOKN.out.nd hp).2.2
            have HBN := hide (fun o => show RowKit.Below wL.heap.size wL (w3.alloc o) from (HMB.out w3 HB3.out).2.alloc (HMB.out w3 HB3.out).2.size o)
            simp only [peerV]
            clear hp HCJ
            have x0 := fun o => (HQ.out _ (HBN.out o)).1.1
            have x1 := fun o => (HQ.out _ (HBN.out o)).1.2
            have HPE := hide (fun ob => peer_any (some ⟨b, o, none⟩) dn dc lA ln lc ls y1 y2 (w3.alloc ob) (by omega) (HQ.out _ (HBN.out ob)).2.1.ls)
            rw [HBK.out] at HPE
            go_wp2_with fail
            refine (HPE.out _).mono ?_
            rintro e w4 ⟨rfl, hb⟩
            have HB4 := hide (HB3.out.trans (((RowKit.Below.refl _ w3).alloc (Nat.le_refl _) _).trans (hb.mono (by simp)) |>.mono (show M + 1 ≤ w3.heap.size by omega)))
            have HB5 := hide (fun ob => HB4.out.alloc (by have := HB4.out.size; have := HSP.out; omega) ob)
            clear hb x0 x1 HPE
            have z0 := fun ob => (HMB.out _ (HB5.out ob)).1.1
            have z1 := fun ob => (HMB.out _ (HB5.out ob)).1.2
            simp only [peerV]
            go_wp2
            go_roundw
            case rel => exact ⟨j + 1, by omega, by go_num, by rw [HCN.out]; go_num, (HMB.out _ (HB5.out _)).2⟩
            case measure => simp [intOf]; omega
        · have hjP' : j = P := by omega
          subst hjP'
          go_wp2
          go_roundw
          case rel => exact ⟨k + 1, by omega, by go_num, by rw [HCS.out], HB⟩
          case measure => simp [intOf]; omega
    · have hk' : k = dn := by omega
      have HF := hide (show cntD DS ls k = 2 * ln from by
        have h1 := cntD_all HOKN.out
        rw [HDV.out, List.length_map, HDL.out, HLL.out, ← HDV.out] at h1
        rw [hk']; exact h1)
      rw [HF.out]
      obtain ⟨⟨x0, x1⟩, _, _⟩ := HQ.out wr HB.out
      go_wp2
      go_ret
      exact ⟨ret_bool (by simp), (HQ.out _ HB.out).2.2⟩

set_option maxRecDepth 100000 in
theorem netPeers_lifted (os : Os) (started : os.Started) (H : Type) (enc : TypeId × Value → H) :
    ReturnsInHanded {} Try.checked os 3 .any (Rows.netPeersSpec.pre6 enc Try.prog Try.f3 Rows.netPeersRow.domain false) (Rows.netPeersSpec.post enc Try.prog Try.f3 false true false false) :=
  law_lifted (C := Try.checked) (tb := 4) Try.own started (by kernel_rfl) Try.func3 Try.laidOut (by kernel_rfl) rfl (by kernel_rfl) Try.underlying4
    (fun ds h => by
      match ds, h with
      | [_], _ => exact ⟨rfl, rfl, rfl⟩)
    (ChangeSpec.witness6 (enc := enc) (C := Try.checked) false ⟨#[], #[.agg #[.slice none 0 0, .slice none 0 0]], []⟩ 8 (by kernel_rfl) (by kernel_rfl) (by kernel_rfl) (by kernel_rfl))
    (fun W base args ds p hval0 hA0 hlt hsz => by
      have hval : ∀ (j : Nat) t v, Try.f3.params[j]? = some t → args[j]? = some v → Value.okWide Try.prog W .any base t v := hval0
      have hA : DataW.TrodAll enc Try.prog W 0 (fun _ => true) true Try.f3.params.toList args.toList ds p := hA0
      rw [Try.params3] at hA hval
      obtain ⟨v0, vs0, d0, ds0, p0, q0, hargs, rfl, rfl, h0, r0⟩ := args_cons hA
      obtain ⟨rfl, rfl, rfl⟩ := args_nil r0
      obtain rfl : args = #[v0] := arr_eq hargs
      obtain ⟨n, hn, rfl⟩ := open_net (hval 0 _ v0 rfl rfl) h0
      exact netPeers_walk n W hn)

theorem netPeers_holds : Rows.NetPeersSaid :=
  OpenClaim.holds_of_wide 3 Try.f3 rfl rfl rfl rfl rfl rfl rfl ⟨rfl, rfl, rfl, rfl, rfl⟩ rfl rfl rfl rfl rfl (by kernel_rfl) Try.func3 (by kernel_rfl)
    (of_decide_eq_true (by kernel_rfl)) (by unfold Func.isWrapper; first | (rw [if_pos (by decide +kernel)]; kernel_rfl) | (rw [if_neg (by decide +kernel)]; exact ⟨rfl, rfl⟩))
    (fun os started H enc _ => netPeers_lifted os started H enc)
end Go.Proofs.Ytidikopjfpioaaa
